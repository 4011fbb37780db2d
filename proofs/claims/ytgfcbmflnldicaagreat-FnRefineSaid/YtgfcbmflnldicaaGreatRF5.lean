/-
  Texts joined.
-/
import Derived.Sort.Grow
import Derived.Test.YtgfcbmflnldicaaGreatRF1
import Derived.Test.YtgfcbmflnldicaaGreatRF3
import Derived.Test.YtgfcbmflnldicaaGreatRF4
set_option linter.unusedVariables false
set_option linter.unusedSimpArgs false
set_option maxRecDepth 100000
set_option maxHeartbeats 40000000
namespace Go.Proofs.YtgfcbmflnldicaaGreat
open Go.RowKit
attribute [local go_sem ↓] Go.wp_at_zero Go.wp_at_succ
def colorOk (x : Int) : Bool := inB x 0 63
theorem isColor_any (x : Int) (w : World) : Calls Tryz.prog 186 #[.int .i64 x] w fun e w' => e = .returned (.bool (colorOk x)) ∧ w = w' := by
 go_enter Tryz.func186, Tryz.ntmps186
 go_wp2_with fail
 refine (within_any x 0 63 w).mono ?_
 rintro e w1 ⟨rfl, rfl⟩
 go_wp2
 go_ret
 exact ⟨rfl, rfl⟩
def notColor (x : Int) : Bool := !colorOk x
theorem areColors1_any (x : Int) (w : World) : Calls Tryz.prog 185 #[.int .i64 x] w fun e w' => e = .returned (.bool (notColor x)) ∧ w = w' := by
 go_enter Tryz.func185, Tryz.ntmps185
 go_wp2_with fail
 refine (isColor_any x w).mono ?_
 rintro e w1 ⟨rfl, rfl⟩
 go_wp2
 go_ret
 exact ⟨rfl, rfl⟩
theorem idx_notColor (a : Option Addr) (c : Nat) (xs : List Int) (w : World) (hx : Rd w a xs) :
    Calls Tryz.prog 221 #[.slice a xs.length c, .func (.func 185) #[] #[]] w fun e w' => e = .returned (.int .i64 (firstOf notColor xs)) ∧ w = w' := by
 have hxl := hx.len
 go_enter Tryz.func221, Tryz.ntmps221
 go_wp2_with fail
 go_loop [8] (fun i => ∃ k : Nat, i = .int .i64 k ∧ k ≤ xs.length ∧ Hid (∀ j, j < k → notColor (nth xs j) = false)) (fun i => xs.length - (intOf i).toNat)
 case atStart => exact ⟨0, rfl, Nat.zero_le _, fun j hj => by omega⟩
 case round =>
  obtain ⟨k, rfl, hk, hq⟩ := hrel
  by_cases hkl : k < xs.length
  · obtain ⟨b1, o1, rfl, _, hc⟩ := hx.at_ (by omega)
    have h1 := hc k hkl
    clear hc hx
    obtain ⟨r, hr⟩ : ∃ r, notColor (nth xs k) = r := ⟨_, rfl⟩
    have HR := Lib.hid hr
    have hcl := areColors1_any (nth xs k) w
    rw [hr] at hcl
    have HC := hide hcl
    clear hr hcl
    go_wp2_with fail
    refine (unhide HC).mono ?_
    rintro e w1 ⟨rfl, rfl⟩
    cases r
    · go_wp2
      go_round
      case rel =>
       refine ⟨k + 1, by go_num, by omega, fun j hj => ?_⟩
       rcases Nat.lt_succ_iff_lt_or_eq.1 hj with h | rfl
       · exact hq.out j h
       · exact HR.out
      case measure => simp [intOf]; omega
    · go_wp2
      go_ret
      exact ⟨ret_int (firstOf_yes hkl HR.out hq.out).symm, rfl⟩
  · go_wp2
    go_ret
    exact ⟨ret_int (firstOf_no (fun j hj => hq.out j (by omega))).symm, rfl⟩
theorem has_notColor (a : Option Addr) (c : Nat) (xs : List Int) (w : World) (hx : Rd w a xs) :
    Calls Tryz.prog 178 #[.slice a xs.length c, .func (.func 185) #[] #[]] w fun e w' => e = .returned (.bool (xs.any notColor)) ∧ w = w' := by
 have hc := idx_notColor a c xs w hx
 rw [any_firstOf]
 generalize hf : firstOf notColor xs = r at hc
 have HF := Lib.hid hf
 have HC := hide hc
 clear hf hc
 by_cases h0 : 0 ≤ r
 · go_enter Tryz.func178, Tryz.ntmps178
   go_wp2_with fail
   refine (unhide HC).mono ?_
   rintro e w1 ⟨rfl, rfl⟩
   go_wp2
   go_ret
   exact ⟨ret_bool (by simp [h0]), rfl⟩
 · go_enter Tryz.func178, Tryz.ntmps178
   go_wp2_with fail
   refine (unhide HC).mono ?_
   rintro e w1 ⟨rfl, rfl⟩
   go_wp2
   go_ret
   exact ⟨ret_bool (by simp [show ¬ 0 ≤ r by omega]), rfl⟩
def colorsOk (xs : List Int) : Bool := decide (xs.length ≤ 64) && !xs.any notColor
theorem colorsOk_long {xs : List Int} (h : ¬ (xs.length : Int) ≤ 64) : colorsOk xs = false := by
 unfold colorsOk; rw [decide_eq_false (by omega)]; rfl
theorem colorsOk_short {xs : List Int} (h : (xs.length : Int) ≤ 64) : colorsOk xs = !xs.any notColor := by
 unfold colorsOk; rw [decide_eq_true (by omega)]; rfl
theorem areColors_any (a : Option Addr) (c : Nat) (xs : List Int) (w : World) (hx : Rd w a xs) : Calls Tryz.prog 110 #[.slice a xs.length c] w fun e w' => e = .returned (.bool (colorsOk xs)) ∧ w = w' := by
 have hxl := hx.len
 by_cases h : (xs.length : Int) ≤ 64
 · rw [colorsOk_short h]
   go_enter Tryz.func110, Tryz.ntmps110
   go_wp2_with fail
   refine (has_notColor a c xs w hx).mono ?_
   rintro e w1 ⟨rfl, rfl⟩
   go_wp2
   go_ret
   exact ⟨rfl, rfl⟩
 · rw [colorsOk_long h]
   go_enter Tryz.func110, Tryz.ntmps110
   go_wp2
   go_ret
   exact ⟨rfl, rfl⟩
theorem any_hit {xs : List Int} {p : Int → Bool} {k : Nat} (hk : k < xs.length) (h : p (nth xs k) = true) : xs.any p = true := by
 rw [List.any_eq_true]; exact ⟨_, nth_mem hk, h⟩
theorem any_none {xs : List Int} {p : Int → Bool} (h : ∀ j, j < xs.length → p (nth xs j) = false) : xs.any p = false := by
 rw [List.any_eq_false]
 intro x hx
 obtain ⟨i, hi, rfl⟩ := List.getElem_of_mem hx
 rw [← nth_lt hi, h i hi]; simp
theorem l21Colors_any (a : Option Addr) (c : Nat) (xs : List Int) (w : World) (hx : Rd w a xs) : Calls Tryz.prog 112 #[.slice a xs.length c] w fun e w' => e = .returned (.bool (colorsOk xs)) ∧ w = w' := by
 have hxl := hx.len
 by_cases h : (xs.length : Int) ≤ 64
 · rw [colorsOk_short h]
   go_enter Tryz.func112, Tryz.ntmps112
   go_wp2_with fail
   go_loop [3] (fun i => ∃ (k : Nat), i = .int .i64 k ∧ k ≤ xs.length ∧ Hid (∀ j, j < k → notColor (nth xs j) = false)) (fun i => xs.length - (intOf i).toNat)
   case atStart => exact ⟨0, rfl, by omega, fun j hj => by omega⟩
   case round =>
    obtain ⟨k, rfl, hk, hq⟩ := hrel
    by_cases hkl : k < xs.length
    · obtain ⟨b1, o1, rfl, _, hcx⟩ := hx.at_ (by omega)
      have hx1 := hcx k hkl
      clear hcx hx
      have hcl := l00In_any (nth xs k) 0 63 w
      obtain ⟨r, hr⟩ : ∃ r, inB (nth xs k) 0 63 = r := ⟨_, rfl⟩
      rw [hr] at hcl
      have HR : Hid (notColor (nth xs k) = !r) := by rw [← hr]; exact rfl
      have HC := hide hcl
      clear hr hcl
      go_wp2_with fail
      refine (unhide HC).mono ?_
      rintro e w1 ⟨rfl, rfl⟩
      cases r
      · go_wp2
        go_ret
        exact ⟨ret_bool (by rw [any_hit hkl HR.out]; rfl), rfl⟩
      · go_wp2
        go_round
        case rel =>
         refine ⟨k + 1, by go_num, by omega, fun j hj => ?_⟩
         rcases Nat.lt_succ_iff_lt_or_eq.1 hj with h | rfl
         · exact hq.out j h
         · exact HR.out
        case measure => simp [intOf]; omega
    · go_wp2
      go_ret
      exact ⟨ret_bool (by rw [any_none (fun j hj => hq.out j (by omega))]; rfl), rfl⟩
 · rw [colorsOk_long h]
   go_enter Tryz.func112, Tryz.ntmps112
   go_wp2
   go_ret
   exact ⟨rfl, rfl⟩
def orI (x y : Int) : Int := if x = 0 then y else x
theorem cmpOr_any (g c : Nat) (x y : Int) (w : World) (h0 : w.cell? ⟨g, 0, none⟩ = some (.int .i64 x)) (h1 : w.cell? ⟨g, 1, none⟩ = some (.int .i64 y)) :
    Calls Tryz.prog 183 #[.slice (some ⟨g, 0, none⟩) 2 c] w fun e w' => e = .returned (.int .i64 (orI x y)) ∧ w = w' := by
 go_enter Tryz.func183, Tryz.ntmps183
 go_wp2_with fail
 go_loop [8] (fun i => ∃ (k : Nat), i = .int .i64 k ∧ k ≤ 2 ∧ Hid (1 ≤ k → x = 0) ∧ Hid (2 ≤ k → y = 0)) (fun i => 2 - (intOf i).toNat)
 case atStart => exact ⟨0, rfl, by omega, fun h => by omega, fun h => by omega⟩
 case round =>
  obtain ⟨k, rfl, hk, q1, q2⟩ := hrel
  obtain rfl | rfl | rfl : k = 0 ∨ k = 1 ∨ k = 2 := by omega
  · by_cases hx : x = 0
    · subst hx
      go_wp2
      go_round
      case rel => exact ⟨1, rfl, by omega, fun _ => by simp, fun h => by omega⟩
      case measure => simp [intOf]
    · have hb : (x != 0) = true := by simpa using hx
      have HX := Lib.hid hx
      clear hx
      go_wp2
      go_ret
      exact ⟨ret_int (by unfold orI; rw [if_neg HX.out]), rfl⟩
  · by_cases hy : y = 0
    · subst hy
      go_wp2
      go_round
      case rel => exact ⟨2, rfl, by omega, fun _ => q1.out (by omega), fun _ => by simp⟩
      case measure => simp [intOf]
    · have hb : (y != 0) = true := by simpa using hy
      have HX := Lib.hid hy
      clear hy
      go_wp2
      go_ret
      exact ⟨ret_int (by unfold orI; rw [if_pos (q1.out (by omega))]), rfl⟩
  · go_wp2
    go_ret
    exact ⟨ret_int (by unfold orI; rw [if_pos (q1.out (by omega)), q2.out (by omega)]), rfl⟩
def cmpE (e f : Int × Int) : Int := orI (cmpI e.1 f.1) (cmpI e.2 f.2)
theorem grow3 (w : World) (a b c : Obj) : (((w.alloc a).alloc b).alloc c).drew = Go.Sort.grow (w.drewN 1) #[a, b, c] := by
 rw [Go.Sort.alloc_eq_grow, Go.Sort.alloc_eq_grow, Go.Sort.alloc_eq_grow, Go.Sort.grow_grow, Go.Sort.grow_grow, Go.Sort.drew_grow]
 rfl
theorem below_grown {w w' : World} (h : ∃ q os, w' = Go.Sort.grow (w.drewN q) os) : Below w.heap.size w w' := by
 obtain ⟨q, os, rfl⟩ := h
 exact ⟨rfl, rfl, rfl, by simp, fun i hi => by
  have : (w.heap ++ os)[i]? = w.heap[i]? := by rw [Array.getElem?_append_left hi]
  exact this⟩
theorem compareEdges_grow (e f : Int × Int) (w : World) :
    Calls Tryz.prog 109 #[.agg #[.int .i64 e.1, .int .i64 e.2], .agg #[.int .i64 f.1, .int .i64 f.2]] w fun r w' => r = .returned (.int .i64 (cmpE e f)) ∧ ∃ q os, w' = Go.Sort.grow (w.drewN q) os := by
 obtain ⟨w0, hw0⟩ : ∃ w0, w0 = (w.alloc (.cells #[.int .i64 e.1, .int .i64 e.2] 142)).alloc (.cells #[.int .i64 f.1, .int .i64 f.2] 142) := ⟨_, rfl⟩
 have hb0 : Below w.heap.size w w0 := by rw [hw0]; exact ((Below.refl _ _).alloc (Nat.le_refl _) _).alloc (by simp) _
 have kA : Blk w0 w.heap.size 142 #[.int .i64 e.1, .int .i64 e.2] := by rw [hw0]; exact (Blk.new _ _ _ rfl).alloc _
 have kB : Blk w0 (w.heap.size + 1) 142 #[.int .i64 f.1, .int .i64 f.2] := by rw [hw0]; exact Blk.new _ _ _ (by simp)
 have s0 : w0.heap.size = w.heap.size + 1 + 1 := by rw [hw0]; simp
 have f0 : w0.cell? ⟨w.heap.size, 0, none⟩ = some (.int .i64 e.1) := kA.cell 0
 have f1 : w0.cell? ⟨w.heap.size, 1, none⟩ = some (.int .i64 e.2) := kA.cell 1
 have f2 : w0.cell? ⟨w.heap.size + 1, 0, none⟩ = some (.int .i64 f.1) := kB.cell 0
 have f3 : w0.cell? ⟨w.heap.size + 1, 1, none⟩ = some (.int .i64 f.2) := kB.cell 1
 have h1 := fun W => compare_any e.1 f.1 W
 have h2 := fun W => compare_any e.2 f.2 W
 have HW := Lib.hid hw0
 clear hw0
 go_enter Tryz.func109, Tryz.ntmps109
 go_wp2_with fail
 rw [← HW.out]
 have kC := Blk.new w0 3 #[.int .i64 (cmpI e.1 f.1), .int .i64 (cmpI e.2 f.2)] s0.symm
 have c0 := kC.cell 0
 have c1 := kC.cell 1
 have hb1 : Below w.heap.size w (w0.alloc (.cells #[.int .i64 (cmpI e.1 f.1), .int .i64 (cmpI e.2 f.2)] 3)) := hb0.alloc (by omega) _
 go_region_with (first
  | (go_at_call 184; refine (compare_any _ _ _).mono ?_; rintro r W ⟨rfl, rfl⟩)
  | (go_at_call 183; refine (cmpOr_any (w.heap.size + 1 + 1) 2 (cmpI e.1 f.1) (cmpI e.2 f.2) _ ?_ ?_).mono ?_; exact c0; exact c1; rintro r W ⟨rfl, rfl⟩))
 all_goals (go_wp2; go_ret)
 all_goals exact ⟨rfl, 1, #[_, _, _], by rw [HW.out]; exact grow3 w _ _ _⟩
theorem compareEdges_any (e f : Int × Int) (w : World) :
    Calls Tryz.prog 109 #[.agg #[.int .i64 e.1, .int .i64 e.2], .agg #[.int .i64 f.1, .int .i64 f.2]] w fun r w' => r = .returned (.int .i64 (cmpE e f)) ∧ Below w.heap.size w w' :=
 (compareEdges_grow e f w).mono fun _ _ h => ⟨h.1, below_grown h.2⟩
theorem cmpE_less (e f : Int × Int) : decide (cmpE e f < 0) = (decide (e.1 < f.1) || (decide (e.1 = f.1) && decide (e.2 < f.2))) := by
 obtain ⟨a, b⟩ := e
 obtain ⟨c, d⟩ := f
 simp only [cmpE, orI, cmpI]
 by_cases h1 : a < c
 · simp [h1]
 · by_cases h2 : c < a
   · have h3 : ¬ a = c := by omega
     simp [h1, h2, h3]
   · have h3 : a = c := by omega
     by_cases h4 : b < d
     · simp [h3, h4]
     · by_cases h5 : d < b
       · simp [h3, h4, h5]
       · simp [h3, h4, h5]
def lessE (e f : Int × Int) : Bool := decide (cmpE e f < 0)
theorem l21Less_any (e f : Int × Int) (w : World) :
    Calls Tryz.prog 114 #[.agg #[.int .i64 e.1, .int .i64 e.2], .agg #[.int .i64 f.1, .int .i64 f.2]] w fun r w' => r = .returned (.bool (lessE e f)) ∧ Below w.heap.size w w' := by
 obtain ⟨a, b⟩ := e
 obtain ⟨c, d⟩ := f
 have hb : ∀ o o', Below w.heap.size w ((w.alloc o).alloc o') := fun o o' => ((Below.refl _ _).alloc (Nat.le_refl _) _).alloc (by simp) _
 have hl := cmpE_less (a, b) (c, d)
 simp only at hl ⊢
 have HL := Lib.hid hl
 clear hl
 by_cases h1 : a < c
 · go_enter Tryz.func114, Tryz.ntmps114
   go_wp2
   go_ret
   exact ⟨ret_bool (by unfold lessE; rw [HL.out]; simp [h1]), hb _ _⟩
 · by_cases h2 : a = c
   · subst h2
     by_cases h3 : b < d
     · go_enter Tryz.func114, Tryz.ntmps114
       go_wp2
       go_ret
       exact ⟨ret_bool (by unfold lessE; rw [HL.out]; simp [h3]), hb _ _⟩
     · go_enter Tryz.func114, Tryz.ntmps114
       go_wp2
       go_ret
       exact ⟨ret_bool (by unfold lessE; rw [HL.out]; simp [show ¬ b < d by omega]), hb _ _⟩
   · have h4 : (a == c) = false := by simpa using h2
     go_enter Tryz.func114, Tryz.ntmps114
     go_wp2
     go_ret
     exact ⟨ret_bool (by unfold lessE; rw [HL.out]; simp [h2, show ¬ a < c by omega]), hb _ _⟩
end Go.Proofs.YtgfcbmflnldicaaGreat
namespace Go.Proofs.YtgfcbmflnldicaaGreat
open Go.RowKit
def edgeOk (n : Int) (es : List (Int × Int)) (k : Nat) : Bool := decide (0 ≤ (nthE es k).1 ∧ (nthE es k).1 < (nthE es k).2 ∧ (nthE es k).2 < n ∧ (k = 0 ∨ lessE (nthE es (k - 1)) (nthE es k) = true))
def okG (xs : List Int) (es : List (Int × Int)) : Bool := colorsOk xs && decide (es.length ≤ 512) && (List.range es.length).all (edgeOk xs.length es)
theorem okG_colors {xs : List Int} {es : List (Int × Int)} (h : colorsOk xs = false) : okG xs es = false := by simp [okG, h]
theorem okG_long {xs : List Int} {es : List (Int × Int)} (h : ¬ (es.length : Int) ≤ 512) : okG xs es = false := by
 unfold okG; rw [decide_eq_false (p := es.length ≤ 512) (by omega)]; simp
theorem okG_no {xs : List Int} {es : List (Int × Int)} {k : Nat} (hk : k < es.length) (h : edgeOk xs.length es k = false) : okG xs es = false := by
 unfold okG
 have : (List.range es.length).all (edgeOk xs.length es) = false := by
  rw [List.all_eq_false]
  exact ⟨k, List.mem_range.2 hk, by simp [h]⟩
 rw [this]; simp
theorem okG_yes {xs : List Int} {es : List (Int × Int)} (h : ∀ j, j < es.length → edgeOk xs.length es j = true) : okG xs es = (colorsOk xs && decide (es.length ≤ 512)) := by
 unfold okG
 have : (List.range es.length).all (edgeOk xs.length es) = true := by
  rw [List.all_eq_true]
  exact fun k hk => h k (List.mem_range.1 hk)
 rw [this]; simp
theorem edgeOk_no {n : Int} {es : List (Int × Int)} {k : Nat} (h : ¬ (0 ≤ (nthE es k).1 ∧ (nthE es k).1 < (nthE es k).2 ∧ (nthE es k).2 < n)) : edgeOk n es k = false := by
 unfold edgeOk; rw [decide_eq_false_iff_not]; rintro ⟨a, b, c, _⟩; exact h ⟨a, b, c⟩
theorem edgeOk_zero {n : Int} {es : List (Int × Int)} (h1 : 0 ≤ (nthE es 0).1) (h2 : (nthE es 0).1 < (nthE es 0).2) (h3 : (nthE es 0).2 < n) : edgeOk n es 0 = true := by
 unfold edgeOk; rw [decide_eq_true_eq]; exact ⟨h1, h2, h3, .inl rfl⟩
theorem edgeOk_less {n : Int} {es : List (Int × Int)} {k : Nat} (h0 : k ≠ 0) (h1 : 0 ≤ (nthE es k).1) (h2 : (nthE es k).1 < (nthE es k).2) (h3 : (nthE es k).2 < n) : edgeOk n es k = lessE (nthE es (k - 1)) (nthE es k) := by
 unfold edgeOk
 rcases h : lessE (nthE es (k - 1)) (nthE es k) with _ | _
 · rw [decide_eq_false_iff_not]; simp [h0]
 · rw [decide_eq_true_eq]; exact ⟨h1, h2, h3, .inr rfl⟩
theorem edgeOk_no' {n x y : Int} {es : List (Int × Int)} {k : Nat} (hx : nthE es k = (x, y)) (h : ¬ (0 ≤ x ∧ x < y ∧ y < n)) : edgeOk n es k = false := edgeOk_no (by rw [hx]; exact h)
theorem edgeOk_zero' {n x y : Int} {es : List (Int × Int)} (hx : nthE es 0 = (x, y)) (h1 : 0 ≤ x) (h2 : x < y) (h3 : y < n) : edgeOk n es 0 = true := edgeOk_zero (by rw [hx]; exact h1) (by rw [hx]; exact h2) (by rw [hx]; exact h3)
theorem edgeOk_less' {n x y : Int} {es : List (Int × Int)} {k : Nat} (hx : nthE es k = (x, y)) (h0 : k ≠ 0) (h1 : 0 ≤ x) (h2 : x < y) (h3 : y < n) : edgeOk n es k = lessE (nthE es (k - 1)) (x, y) := by
 rw [← hx]
 exact edgeOk_less h0 (by rw [hx]; exact h1) (by rw [hx]; exact h2) (by rw [hx]; exact h3)
end Go.Proofs.YtgfcbmflnldicaaGreat
namespace Go.Proofs.YtgfcbmflnldicaaGreat
theorem lessE_iff {e f : Int × Int} : lessE e f = true ↔ (e.1 < f.1 ∨ (e.1 = f.1 ∧ e.2 < f.2)) := by
 rw [lessE, cmpE_less]; simp
def LtE (e f : Int × Int) : Prop := e.1 < f.1 ∨ (e.1 = f.1 ∧ e.2 < f.2)
theorem LtE.trans {e f g : Int × Int} (h : LtE e f) (k : LtE f g) : LtE e g := by
 unfold LtE at *; omega
theorem LtE.ne {e f : Int × Int} (h : LtE e f) : e ≠ f := by
 rintro rfl; unfold LtE at h; omega
theorem uniqE {xs ys : List (Int × Int)} (hx : xs.Pairwise LtE) (hy : ys.Pairwise LtE) (h : ∀ e, e ∈ xs ↔ e ∈ ys) : xs = ys :=
 List.Perm.eq_of_pairwise (le := LtE) (fun _ _ _ _ h1 h2 => absurd rfl (LtE.ne (h1.trans h2))) hx hy ((List.perm_ext_iff_of_nodup (hx.imp LtE.ne) (hy.imp LtE.ne)).2 h)
theorem uniqI {xs ys : List Int} (hx : xs.Pairwise (· < ·)) (hy : ys.Pairwise (· < ·)) (h : ∀ e, e ∈ xs ↔ e ∈ ys) : xs = ys :=
 List.Perm.eq_of_pairwise (le := (· < ·)) (fun _ _ _ _ h1 h2 => by omega) hx hy ((List.perm_ext_iff_of_nodup (hx.imp (fun h => by omega)) (hy.imp (fun h => by omega))).2 h)
theorem pairwise_of_next {α : Type} {R : α → α → Prop} (ht : ∀ a b c, R a b → R b c → R a c) : ∀ (xs : List α), (∀ i (h : i + 1 < xs.length), R xs[i] xs[i + 1]) → xs.Pairwise R
 | [], _ => .nil
 | [x], _ => by simp
 | x :: y :: zs, h => by
  have ih := pairwise_of_next ht (y :: zs) (fun i hi => by
   have := h (i + 1) (by simp at hi ⊢; omega)
   simpa using this)
  refine List.Pairwise.cons (fun z hz => ?_) ih
  have h0 : R x y := by
   have := h 0 (by simp)
   simpa using this
  rcases List.mem_cons.1 hz with rfl | hz
  · exact h0
  · exact ht _ _ _ h0 ((List.pairwise_cons.1 ih).1 z hz)
structure GG (n : Nat) (xs : List Int) (es : List (Int × Int)) : Prop where
 hn : xs.length = n
 n64 : n ≤ 64
 cols : colorsOk xs = true
 m512 : es.length ≤ 512
 lo : ∀ e ∈ es, 0 ≤ e.1
 lt : ∀ e ∈ es, e.1 < e.2
 hi : ∀ e ∈ es, e.2 < n
 sorted : es.Pairwise LtE
theorem okG_iff {xs : List Int} {es : List (Int × Int)} : okG xs es = true ↔ GG xs.length xs es := by
 unfold okG
 rw [Bool.and_eq_true, Bool.and_eq_true, decide_eq_true_eq, List.all_eq_true]
 constructor
 · rintro ⟨⟨h1, h2⟩, h3⟩
   have hk : ∀ k (h : k < es.length), 0 ≤ es[k].1 ∧ es[k].1 < es[k].2 ∧ es[k].2 < xs.length ∧ (k = 0 ∨ lessE (nthE es (k - 1)) es[k] = true) := fun k h => by
    have := h3 k (List.mem_range.2 h)
    rw [edgeOk, decide_eq_true_eq, nthE_lt h] at this
    exact this
   have hm : ∀ e ∈ es, ∃ k, ∃ h : k < es.length, es[k] = e := fun e he => List.getElem_of_mem he
   have hc := h1
   rw [colorsOk, Bool.and_eq_true, decide_eq_true_eq] at hc
   refine ⟨rfl, hc.1, h1, h2, fun e he => ?_, fun e he => ?_, fun e he => ?_, ?_⟩
   · obtain ⟨k, h, rfl⟩ := hm e he
     exact (hk k h).1
   · obtain ⟨k, h, rfl⟩ := hm e he
     exact (hk k h).2.1
   · obtain ⟨k, h, rfl⟩ := hm e he
     exact (hk k h).2.2.1
   · refine pairwise_of_next (R := LtE) (fun _ _ _ h k => LtE.trans h k) _ fun i h => ?_
     have := (hk (i + 1) h).2.2.2
     rcases this with h0 | h0
     · omega
     · rw [Nat.add_sub_cancel, nthE_lt (by omega), lessE_iff] at h0
       exact h0
 · intro h
   refine ⟨⟨h.cols, h.m512⟩, fun k hk => ?_⟩
   have hk := List.mem_range.1 hk
   rw [edgeOk, decide_eq_true_eq]
   refine ⟨h.lo _ (nthE_mem hk), h.lt _ (nthE_mem hk), h.hi _ (nthE_mem hk), ?_⟩
   by_cases h0 : k = 0
   · exact .inl h0
   · refine .inr (lessE_iff.2 ?_)
     rw [nthE_lt hk, nthE_lt (i := k - 1) (by omega)]
     exact List.pairwise_iff_getElem.1 h.sorted _ _ _ _ (by omega)
def adjE (es : List (Int × Int)) (a b : Nat) : Bool := es.any fun e => e == ((a : Int), (b : Int)) || e == ((b : Int), (a : Int))
theorem adjE_iff {es : List (Int × Int)} {a b : Nat} : adjE es a b = true ↔ ((a : Int), (b : Int)) ∈ es ∨ ((b : Int), (a : Int)) ∈ es := by
 rw [adjE, List.any_eq_true]
 constructor
 · rintro ⟨e, he, h⟩
   rw [Bool.or_eq_true, beq_iff_eq, beq_iff_eq] at h
   rcases h with rfl | rfl
   · exact .inl he
   · exact .inr he
 · rintro (h | h)
   · exact ⟨_, h, by simp⟩
   · exact ⟨_, h, by simp⟩
def putT (T : Nat → Nat → Bool) (x y : Nat) : Nat → Nat → Bool := fun a b => T a b || (a == x && b == y) || (a == y && b == x)
theorem adjE_snoc (es : List (Int × Int)) (x y : Nat) : adjE (es ++ [((x : Int), (y : Int))]) = putT (adjE es) x y := by
 funext a b
 rw [Bool.eq_iff_iff, adjE_iff, putT, Bool.or_eq_true, Bool.or_eq_true, adjE_iff]
 simp only [List.mem_append, List.mem_singleton, Prod.mk.injEq, Bool.and_eq_true, beq_iff_eq]
 constructor
 · rintro ((h | ⟨h1, h2⟩) | (h | ⟨h1, h2⟩))
   · exact .inl (.inl (.inl h))
   · exact .inl (.inr ⟨by omega, by omega⟩)
   · exact .inl (.inl (.inr h))
   · exact .inr ⟨by omega, by omega⟩
 · rintro (((h | h) | ⟨h1, h2⟩) | ⟨h1, h2⟩)
   · exact .inl (.inl h)
   · exact .inr (.inl h)
   · exact .inl (.inr ⟨by omega, by omega⟩)
   · exact .inr (.inr ⟨by omega, by omega⟩)
theorem adjE_comm (es : List (Int × Int)) (a b : Nat) : adjE es a b = adjE es b a := by
 rw [Bool.eq_iff_iff, adjE_iff, adjE_iff]; exact Or.comm
def nearT (n : Nat) (T : Nat → Nat → Bool) (a : Nat) : List Int := ((List.range n).filter (T a)).map Int.ofNat
def rowTE (n : Nat) (T : Nat → Nat → Bool) (a : Nat) : List (Int × Int) := ((List.range n).filter fun b => decide (a < b) && T a b).map fun (b : Nat) => ((a : Int), (b : Int))
def edgesT (n : Nat) (T : Nat → Nat → Bool) (k : Nat) : List (Int × Int) := (List.range k).flatMap (rowTE n T)
theorem range_lt (n : Nat) : (List.range n).Pairwise (· < ·) := List.pairwise_lt_range
theorem nearT_sorted (n : Nat) (T : Nat → Nat → Bool) (a : Nat) : (nearT n T a).Pairwise (· < ·) := by
 rw [nearT, List.pairwise_map]
 exact ((range_lt n).filter _).imp (fun h => by simpa using h)
theorem mem_nearT {n : Nat} {T : Nat → Nat → Bool} {a : Nat} {x : Int} : x ∈ nearT n T a ↔ ∃ b, b < n ∧ T a b = true ∧ x = (b : Int) := by
 rw [nearT, List.mem_map]
 constructor
 · rintro ⟨b, hb, rfl⟩
   rw [List.mem_filter, List.mem_range] at hb
   exact ⟨b, hb.1, hb.2, rfl⟩
 · rintro ⟨b, h1, h2, rfl⟩
   exact ⟨b, by rw [List.mem_filter, List.mem_range]; exact ⟨h1, h2⟩, rfl⟩
theorem mem_edgesT {n : Nat} {T : Nat → Nat → Bool} {k : Nat} {e : Int × Int} : e ∈ edgesT n T k ↔ ∃ a b : Nat, a < k ∧ a < b ∧ b < n ∧ T a b = true ∧ e = ((a : Int), (b : Int)) := by
 rw [edgesT, List.mem_flatMap]
 constructor
 · rintro ⟨a, ha, he⟩
   rw [rowTE, List.mem_map] at he
   obtain ⟨b, hb, rfl⟩ := he
   rw [List.mem_filter, Bool.and_eq_true, decide_eq_true_eq, List.mem_range] at hb
   exact ⟨a, b, List.mem_range.1 ha, hb.2.1, hb.1, hb.2.2, rfl⟩
 · rintro ⟨a, b, h1, h2, h3, h4, rfl⟩
   refine ⟨a, List.mem_range.2 h1, ?_⟩
   rw [rowTE, List.mem_map]
   exact ⟨b, by rw [List.mem_filter, Bool.and_eq_true, decide_eq_true_eq, List.mem_range]; exact ⟨h3, h2, h4⟩, rfl⟩
theorem edgesT_sorted (n : Nat) (T : Nat → Nat → Bool) (k : Nat) : (edgesT n T k).Pairwise LtE := by
 rw [edgesT, List.pairwise_flatMap]
 refine ⟨fun a _ => ?_, (range_lt k).imp fun {a b} h x hx y hy => ?_⟩
 · rw [rowTE, List.pairwise_map]
   exact ((range_lt n).filter _).imp (fun h => .inr ⟨rfl, by simpa using h⟩)
 · rw [rowTE, List.mem_map] at hx hy
   obtain ⟨_, _, rfl⟩ := hx
   obtain ⟨_, _, rfl⟩ := hy
   exact .inl (by simpa using h)
theorem edgesT_succ (n : Nat) (T : Nat → Nat → Bool) (k : Nat) : edgesT n T (k + 1) = edgesT n T k ++ rowTE n T k := by
 rw [edgesT, edgesT, List.range_succ, List.flatMap_append]; simp
def rowToT (T : Nat → Nat → Bool) (a b : Nat) : List (Int × Int) := ((List.range b).filter fun b => decide (a < b) && T a b).map fun (b : Nat) => ((a : Int), (b : Int))
theorem rowToT_all (n : Nat) (T : Nat → Nat → Bool) (a : Nat) : rowToT T a n = rowTE n T a := rfl
theorem rowToT_start (T : Nat → Nat → Bool) (a : Nat) : rowToT T a (a + 1) = [] := by
 rw [rowToT, List.map_eq_nil_iff, List.filter_eq_nil_iff]
 intro b hb
 rw [List.mem_range] at hb
 simp; omega
theorem rowToT_yes {T : Nat → Nat → Bool} {a b : Nat} (h : a < b) (ht : T a b = true) : rowToT T a (b + 1) = rowToT T a b ++ [((a : Int), (b : Int))] := by
 rw [rowToT, rowToT, List.range_succ, List.filter_append, List.map_append]
 simp [h, ht]
theorem rowToT_no {T : Nat → Nat → Bool} {a b : Nat} (ht : T a b = false) : rowToT T a (b + 1) = rowToT T a b := by
 rw [rowToT, rowToT, List.range_succ, List.filter_append, List.map_append]
 simp [ht]
theorem nearT_len (n : Nat) (T : Nat → Nat → Bool) (a : Nat) : (nearT n T a).length ≤ n := by
 rw [nearT, List.length_map]
 exact Nat.le_trans (List.length_filter_le _ _) (by simp)
def nbrs (es : List (Int × Int)) (v : Nat) : List Int := es.flatMap fun e => (if e.1 = (v : Int) then [e.2] else []) ++ (if e.2 = (v : Int) then [e.1] else [])
theorem mem_nbrs {es : List (Int × Int)} {v : Nat} {x : Int} : x ∈ nbrs es v ↔ ((v : Int), x) ∈ es ∨ (x, (v : Int)) ∈ es := by
 rw [nbrs, List.mem_flatMap]
 constructor
 · rintro ⟨⟨p, q⟩, he, h⟩
   rw [List.mem_append] at h
   rcases h with h | h
   · split at h
     · rename_i h1
       simp only [List.mem_singleton] at h
       simp only at h1
       subst h1; subst h
       exact .inl he
     · simp at h
   · split at h
     · rename_i h1
       simp only [List.mem_singleton] at h
       simp only at h1
       subst h1; subst h
       exact .inr he
     · simp at h
 · rintro (h | h)
   · exact ⟨_, h, by simp⟩
   · exact ⟨_, h, by simp⟩
theorem nbrs_nodup {n : Nat} {xs : List Int} {es : List (Int × Int)} (h : GG n xs es) (v : Nat) : (nbrs es v).Nodup := by
 rw [nbrs]
 have hlt := h.lt
 have hs := h.sorted
 clear h
 induction es with
 | nil => simp
 | cons e es ih =>
  rw [List.flatMap_cons]
  rw [List.pairwise_cons] at hs
  have ih := ih (fun f hf => hlt f (List.mem_cons_of_mem _ hf)) hs.2
  rw [List.nodup_append]
  refine ⟨?_, ih, ?_⟩
  · have := hlt e (List.mem_cons_self ..)
    by_cases h1 : e.1 = (v : Int) <;> by_cases h2 : e.2 = (v : Int)
    · omega
    · simp [h1, h2]
    · simp [h1, h2]
    · simp [h1, h2]
  · intro x hx y hy hxy
    subst hxy
    have hy := mem_nbrs.1 (show x ∈ nbrs es v from hy)
    have h0 := hlt e (List.mem_cons_self ..)
    rw [List.mem_append] at hx
    have hne : ∀ f ∈ es, e ≠ f := fun f hf => (hs.1 f hf).ne
    obtain ⟨p, q⟩ := e
    simp only at hx h0
    rcases hx with hx | hx
    · split at hx
      · rename_i h1
        simp only [List.mem_singleton] at hx
        subst h1; subst hx
        rcases hy with hy | hy
        · exact hne _ hy rfl
        · have := hlt _ (List.mem_cons_of_mem _ hy)
          simp only at this
          omega
      · simp at hx
    · split at hx
      · rename_i h1
        simp only [List.mem_singleton] at hx
        subst h1; subst hx
        rcases hy with hy | hy
        · have := hlt _ (List.mem_cons_of_mem _ hy)
          simp only at this
          omega
        · exact hne _ hy rfl
      · simp at hx
theorem near_of_sorted {n : Nat} {xs : List Int} {es : List (Int × Int)} (h : GG n xs es) {v : Nat} {ys : List Int} (hp : ys.Perm (nbrs es v)) (hs : ys.Pairwise (· ≤ ·)) : ys = nearT n (adjE es) v := by
 have hnd : ys.Nodup := (hp.nodup_iff).2 (nbrs_nodup h v)
 refine uniqI (hs.imp₂ (fun h1 h2 => by omega) hnd) (nearT_sorted _ _ _) fun x => ?_
 rw [hp.mem_iff, mem_nbrs, mem_nearT]
 constructor
 · intro hx
   have hx0 : 0 ≤ x ∧ x < n := by
    rcases hx with hx | hx
    · have h1 := h.lo _ hx
      have h2 := h.lt _ hx
      have h3 := h.hi _ hx
      simp only at h1 h2 h3
      omega
    · have h1 := h.lo _ hx
      have h2 := h.lt _ hx
      have h3 := h.hi _ hx
      simp only at h1 h2 h3
      omega
   refine ⟨x.toNat, by omega, ?_, by omega⟩
   rw [adjE_iff, Int.toNat_of_nonneg hx0.1]
   exact hx
 · rintro ⟨b, hb, ht, rfl⟩
   exact adjE_iff.1 ht
def cmpctFrom {α : Type} (eq : α → α → Bool) : α → List α → List α
 | _, [] => []
 | x, y :: ys => if eq y x then cmpctFrom eq y ys else y :: cmpctFrom eq y ys
def cmpct {α : Type} (eq : α → α → Bool) : List α → List α
 | [] => []
 | x :: xs => x :: cmpctFrom eq x xs
theorem cmpctFrom_snoc {α : Type} (eq : α → α → Bool) : ∀ (x : α) (xs : List α) (y : α), cmpctFrom eq x (xs ++ [y]) = cmpctFrom eq x xs ++ bif eq y ((x :: xs).getLast (by simp)) then [] else [y]
 | x, [], y => by cases h : eq y x <;> simp [cmpctFrom, h]
 | x, z :: zs, y => by
  rw [List.cons_append, cmpctFrom, cmpctFrom, cmpctFrom_snoc eq z zs y]
  by_cases h : eq z x = true
  · rw [if_pos h, if_pos h]; rfl
  · rw [if_neg h, if_neg h]; rfl
theorem cmpct_snoc {α : Type} (eq : α → α → Bool) (xs : List α) (h : xs ≠ []) (y : α) : cmpct eq (xs ++ [y]) = cmpct eq xs ++ bif eq y (xs.getLast h) then [] else [y] := by
 cases xs with
 | nil => exact absurd rfl h
 | cons x xs => rw [List.cons_append, cmpct, cmpct, cmpctFrom_snoc]; rfl
theorem cmpctFrom_len {α : Type} (eq : α → α → Bool) : ∀ (x : α) (xs : List α), (cmpctFrom eq x xs).length ≤ xs.length
 | _, [] => by simp [cmpctFrom]
 | x, y :: ys => by
  have := cmpctFrom_len eq y ys
  rw [cmpctFrom]
  split <;> simp <;> omega
theorem cmpct_len {α : Type} (eq : α → α → Bool) : ∀ (xs : List α), (cmpct eq xs).length ≤ xs.length
 | [] => by simp [cmpct]
 | x :: xs => by have := cmpctFrom_len eq x xs; simp [cmpct]; omega
theorem cmpctFrom_mem {α : Type} {eq : α → α → Bool} (he : ∀ a b, eq a b = true ↔ a = b) : ∀ (x : α) (xs : List α) (z : α), z ∈ x :: cmpctFrom eq x xs ↔ z ∈ x :: xs
 | x, [], z => by simp [cmpctFrom]
 | x, y :: ys, z => by
  have ih := cmpctFrom_mem he y ys z
  rw [cmpctFrom]
  by_cases h : eq y x = true
  · rw [if_pos h]
    have := (he _ _).1 h
    subst this
    rw [ih]; simp
  · rw [if_neg h]
    rw [List.mem_cons, ih, List.mem_cons (l := y :: ys)]
theorem cmpct_mem {α : Type} {eq : α → α → Bool} (he : ∀ a b, eq a b = true ↔ a = b) (xs : List α) (z : α) : z ∈ cmpct eq xs ↔ z ∈ xs := by
 cases xs with
 | nil => simp [cmpct]
 | cons x xs => exact cmpctFrom_mem he x xs z
theorem cmpctFrom_strict {α : Type} {eq : α → α → Bool} {R : α → α → Prop} (he : ∀ a b, eq a b = true ↔ a = b) (ht : ∀ a b c, R a b → R b c → R a c) (ha : ∀ a b, ¬ R b a → a ≠ b → R a b) (hn : ∀ a b, R a b → ¬ R b a) :
    ∀ (x : α) (xs : List α), (x :: xs).Pairwise (fun a b => ¬ R b a) → (x :: cmpctFrom eq x xs).Pairwise R
 | x, [], _ => by simp [cmpctFrom]
 | x, y :: ys, h => by
  have h2 := List.pairwise_cons.1 h
  have ih := cmpctFrom_strict he ht ha hn y ys h2.2
  rw [cmpctFrom]
  by_cases e : eq y x = true
  · rw [if_pos e]
    have := (he _ _).1 e
    subst this
    exact ih
  · rw [if_neg e]
    have hxy : R x y := ha _ _ (h2.1 y (List.mem_cons_self ..)) (fun e2 => e ((he _ _).2 e2.symm))
    refine List.pairwise_cons.2 ⟨fun z hz => ?_, ih⟩
    rcases List.mem_cons.1 hz with rfl | hz
    · exact hxy
    · exact ht _ _ _ hxy ((List.pairwise_cons.1 ih).1 z hz)
theorem cmpct_strict {α : Type} {eq : α → α → Bool} {R : α → α → Prop} (he : ∀ a b, eq a b = true ↔ a = b) (ht : ∀ a b c, R a b → R b c → R a c) (ha : ∀ a b, ¬ R b a → a ≠ b → R a b) (hn : ∀ a b, R a b → ¬ R b a) (xs : List α) (h : xs.Pairwise (fun a b => ¬ R b a)) : (cmpct eq xs).Pairwise R := by
 cases xs with
 | nil => simp [cmpct]
 | cons x xs => exact cmpctFrom_strict he ht ha hn x xs h
def sameE (e f : Int × Int) : Bool := decide (e = f)
theorem cmpct_edges {xs ys zs : List (Int × Int)} (hp : ys.Perm xs) (hs : ys.Pairwise (fun a b => ¬ LtE b a)) (hz : zs.Pairwise LtE) (hm : ∀ e, e ∈ xs ↔ e ∈ zs) : cmpct sameE ys = zs := by
 have he : ∀ a b : Int × Int, sameE a b = true ↔ a = b := fun a b => by simp [sameE]
 refine uniqE (cmpct_strict (R := LtE) he (fun _ _ _ h k => LtE.trans h k) (fun a b h hn => ?_) (fun a b h k => LtE.ne (h.trans k) rfl) _ hs) hz fun e => ?_
 · unfold LtE at *
   obtain ⟨a1, a2⟩ := a
   obtain ⟨b1, b2⟩ := b
   simp only [ne_eq, Prod.mk.injEq] at *
   omega
 · rw [cmpct_mem he, hp.mem_iff, hm]
def ordE (e : Int × Int) : Int × Int := if e.1 < e.2 then e else (e.2, e.1)
theorem made_edges {n : Nat} {es ys : List (Int × Int)} (hi : ∀ e ∈ es, 0 ≤ e.1 ∧ e.1 < n ∧ 0 ≤ e.2 ∧ e.2 < n ∧ e.1 ≠ e.2) (hp : ys.Perm (es.map ordE)) (hs : ys.Pairwise (fun a b => ¬ LtE b a)) : cmpct sameE ys = edgesT n (adjE es) n := by
 refine cmpct_edges hp hs (edgesT_sorted _ _ _) fun e => ?_
 rw [mem_edgesT, List.mem_map]
 constructor
 · rintro ⟨f, hf, rfl⟩
   obtain ⟨h1, h2, h3, h4, h5⟩ := hi f hf
   obtain ⟨p, q⟩ := f
   simp only at h1 h2 h3 h4 h5
   by_cases h : p < q
   · refine ⟨p.toNat, q.toNat, by omega, by omega, by omega, adjE_iff.2 (.inl ?_), ?_⟩
     · rw [Int.toNat_of_nonneg h1, Int.toNat_of_nonneg h3]; exact hf
     · simp only [ordE, if_pos h, Int.toNat_of_nonneg h1, Int.toNat_of_nonneg h3]
   · refine ⟨q.toNat, p.toNat, by omega, by omega, by omega, adjE_iff.2 (.inr ?_), ?_⟩
     · rw [Int.toNat_of_nonneg h1, Int.toNat_of_nonneg h3]; exact hf
     · simp only [ordE, if_neg h, Int.toNat_of_nonneg h1, Int.toNat_of_nonneg h3]
 · rintro ⟨a, b, h1, h2, h3, h4, rfl⟩
   rcases adjE_iff.1 h4 with h | h
   · exact ⟨_, h, by simp only [ordE]; rw [if_pos (by omega)]⟩
   · exact ⟨_, h, by simp only [ordE]; rw [if_neg (by omega)]⟩
theorem rowT_len (n : Nat) (T : Nat → Nat → Bool) (a : Nat) : (rowTE n T a).length ≤ n := by
 rw [rowTE, List.length_map]
 exact Nat.le_trans (List.length_filter_le _ _) (by simp)
theorem rowToT_len (T : Nat → Nat → Bool) (a b : Nat) : (rowToT T a b).length ≤ b := by
 rw [rowToT, List.length_map]
 exact Nat.le_trans (List.length_filter_le _ _) (by simp)
theorem edgesT_len (n : Nat) (T : Nat → Nat → Bool) (k : Nat) : (edgesT n T k).length ≤ k * n := by
 induction k with
 | zero => simp [edgesT]
 | succ k ih =>
  rw [edgesT_succ, List.length_append, Nat.succ_mul]
  have := rowT_len n T k
  omega
end Go.Proofs.YtgfcbmflnldicaaGreat
namespace Go.Proofs.YtgfcbmflnldicaaGreat
def sortI (xs : List Int) : List Int := xs.mergeSort fun a b => decide (a ≤ b)
theorem sortI_perm (xs : List Int) : (sortI xs).Perm xs := List.mergeSort_perm _ _
theorem sortI_le (xs : List Int) : (sortI xs).Pairwise (· ≤ ·) :=
 (List.pairwise_mergeSort (le := fun a b => decide (a ≤ b)) (fun a b c h1 h2 => by simp only [decide_eq_true_eq] at *; omega) (fun a b => by simp only [Bool.or_eq_true, decide_eq_true_eq]; omega) xs).imp (fun h => by simpa using h)
theorem sortI_eq {xs ys : List Int} (hp : ys.Perm xs) (hs : ys.Pairwise (· ≤ ·)) : ys = sortI xs :=
 List.Perm.eq_of_pairwise (le := (· ≤ ·)) (fun _ _ _ _ h1 h2 => by omega) hs (sortI_le xs) (hp.trans (sortI_perm xs).symm)
theorem sortI_congr {xs ys : List Int} (h : xs.Perm ys) : sortI xs = sortI ys := sortI_eq ((sortI_perm xs).trans h) (sortI_le xs)
theorem sortI_len (xs : List Int) : (sortI xs).length = xs.length := (sortI_perm xs).length_eq
theorem sortI_iff {xs ys : List Int} : sortI xs = sortI ys ↔ xs.Perm ys := ⟨fun h => (sortI_perm xs).symm.trans (h ▸ sortI_perm ys), sortI_congr⟩
def eqI (a b : Int) : Bool := decide (a = b)
def distI (xs : List Int) : List Int := cmpct eqI (sortI xs)
theorem eqI_iff (a b : Int) : eqI a b = true ↔ a = b := by simp [eqI]
theorem distI_strict (xs : List Int) : (distI xs).Pairwise (· < ·) :=
 cmpct_strict (R := (· < ·)) eqI_iff (fun _ _ _ h k => by omega) (fun a b h k => by omega) (fun a b h => by omega) _ ((sortI_le xs).imp (fun h => by omega))
theorem distI_mem (xs : List Int) (x : Int) : x ∈ distI xs ↔ x ∈ xs := by rw [distI, cmpct_mem eqI_iff, (sortI_perm xs).mem_iff]
theorem distI_eq {xs ys : List Int} (hs : ys.Pairwise (· < ·)) (hm : ∀ x, x ∈ ys ↔ x ∈ xs) : ys = distI xs := uniqI hs (distI_strict xs) fun x => by rw [hm, distI_mem]
def LtL (xs ys : List Int) : Prop := cmpL xs ys < 0
theorem cmpI_zero {x y : Int} : cmpI x y = 0 ↔ x = y := by
 unfold cmpI
 constructor
 · intro h
   split at h
   · omega
   · split at h <;> omega
 · rintro rfl; simp
theorem cmpI_neg {x y : Int} : cmpI x y < 0 ↔ x < y := by
 unfold cmpI
 constructor
 · intro h
   split at h
   · assumption
   · split at h <;> omega
 · intro h; rw [if_pos h]; omega
theorem cmpL_zero : ∀ {xs ys : List Int}, cmpL xs ys = 0 ↔ xs = ys
 | [], [] => by simp [cmpL]
 | [], _ :: _ => by simp [cmpL]
 | _ :: _, [] => by simp [cmpL]
 | x :: xs, y :: ys => by
  rw [cmpL]
  by_cases h : cmpI x y = 0
  · rw [if_pos h, cmpL_zero, List.cons.injEq, cmpI_zero.1 h]; simp
  · rw [if_neg h, List.cons.injEq]
    exact ⟨fun h2 => absurd h2 h, fun h2 => absurd (cmpI_zero.2 h2.1) h⟩
theorem ltL_cons {x y : Int} {xs ys : List Int} : LtL (x :: xs) (y :: ys) ↔ x < y ∨ (x = y ∧ LtL xs ys) := by
 rw [LtL, cmpL]
 by_cases h : cmpI x y = 0
 · rw [if_pos h]
   have := cmpI_zero.1 h
   subst this
   constructor
   · intro h2; exact .inr ⟨rfl, h2⟩
   · rintro (h2 | ⟨_, h2⟩)
     · omega
     · exact h2
 · rw [if_neg h, cmpI_neg]
   have : x ≠ y := fun e => h (cmpI_zero.2 e)
   constructor
   · exact .inl
   · rintro (h2 | ⟨h2, _⟩)
     · exact h2
     · exact absurd h2 this
theorem ltL_nil_left {ys : List Int} : LtL [] ys ↔ ys ≠ [] := by cases ys <;> simp [LtL, cmpL]
theorem ltL_nil_right {xs : List Int} : ¬ LtL xs [] := by cases xs <;> simp [LtL, cmpL]
theorem LtL.irrefl (xs : List Int) : ¬ LtL xs xs := by rw [LtL, cmpL_zero.2 rfl]; omega
theorem LtL.trans : ∀ {xs ys zs : List Int}, LtL xs ys → LtL ys zs → LtL xs zs
 | _, [], _, h, _ => absurd h ltL_nil_right
 | _, _ :: _, [], _, h => absurd h ltL_nil_right
 | [], _ :: _, _ :: _, _, _ => ltL_nil_left.2 (by simp)
 | x :: xs, y :: ys, z :: zs, h, k => by
  rw [ltL_cons] at *
  rcases h with h | ⟨h1, h2⟩ <;> rcases k with k | ⟨k1, k2⟩
  · exact .inl (by omega)
  · exact .inl (by omega)
  · exact .inl (by omega)
  · exact .inr ⟨by omega, h2.trans k2⟩
theorem ltL_tri : ∀ (xs ys : List Int), LtL xs ys ∨ xs = ys ∨ LtL ys xs
 | [], [] => .inr (.inl rfl)
 | [], _ :: _ => .inl (ltL_nil_left.2 (by simp))
 | _ :: _, [] => .inr (.inr (ltL_nil_left.2 (by simp)))
 | x :: xs, y :: ys => by
  rw [ltL_cons, ltL_cons, List.cons.injEq]
  rcases ltL_tri xs ys with h | h | h
  · by_cases h1 : x < y
    · exact .inl (.inl h1)
    · by_cases h2 : y < x
      · exact .inr (.inr (.inl h2))
      · exact .inl (.inr ⟨by omega, h⟩)
  · by_cases h1 : x < y
    · exact .inl (.inl h1)
    · by_cases h2 : y < x
      · exact .inr (.inr (.inl h2))
      · exact .inr (.inl ⟨by omega, h⟩)
  · by_cases h1 : x < y
    · exact .inl (.inl h1)
    · by_cases h2 : y < x
      · exact .inr (.inr (.inl h2))
      · exact .inr (.inr (.inr ⟨by omega, h⟩))
theorem LtL.asymm {xs ys : List Int} (h : LtL xs ys) : ¬ LtL ys xs := fun k => LtL.irrefl _ (h.trans k)
theorem LtL.ne {xs ys : List Int} (h : LtL xs ys) : xs ≠ ys := by rintro rfl; exact LtL.irrefl _ h
theorem uniqL {xs ys : List (List Int)} (hx : xs.Pairwise LtL) (hy : ys.Pairwise LtL) (h : ∀ e, e ∈ xs ↔ e ∈ ys) : xs = ys :=
 List.Perm.eq_of_pairwise (le := LtL) (fun _ _ _ _ h1 h2 => absurd h2 h1.asymm) hx hy ((List.perm_ext_iff_of_nodup (hx.imp LtL.ne) (hy.imp LtL.ne)).2 h)
def sortL (xs : List (List Int)) : List (List Int) := xs.mergeSort fun a b => decide (cmpL a b ≤ 0)
theorem cmpL_le {a b : List Int} : cmpL a b ≤ 0 ↔ ¬ LtL b a := by
 constructor
 · intro h k
   rcases Int.lt_or_eq_of_le h with h | h
   · exact k.asymm h
   · rw [cmpL_zero] at h; subst h; exact LtL.irrefl _ k
 · intro h
   rcases ltL_tri a b with k | k | k
   · exact Int.le_of_lt k
   · rw [cmpL_zero.2 k]; omega
   · exact absurd k h
theorem sortL_perm (xs : List (List Int)) : (sortL xs).Perm xs := List.mergeSort_perm _ _
theorem sortL_le (xs : List (List Int)) : (sortL xs).Pairwise (fun a b => ¬ LtL b a) := by
 refine (List.pairwise_mergeSort (le := fun a b => decide (cmpL a b ≤ 0)) (fun a b c h1 h2 => ?_) (fun a b => ?_) xs).imp (fun h => cmpL_le.1 (by simpa using h))
 · simp only [decide_eq_true_eq, cmpL_le] at *
   intro k
   rcases ltL_tri b c with h | h | h
   · exact h1 (h.trans k)
   · subst h; exact h1 k
   · exact h2 h
 · simp only [Bool.or_eq_true, decide_eq_true_eq, cmpL_le]
   by_cases h : LtL b a
   · exact .inr h.asymm
   · exact .inl h
theorem sortL_eq {xs ys : List (List Int)} (hp : ys.Perm xs) (hs : ys.Pairwise (fun a b => ¬ LtL b a)) : ys = sortL xs :=
 List.Perm.eq_of_pairwise (le := fun a b => ¬ LtL b a) (fun a b _ _ h1 h2 => by
  rcases ltL_tri a b with h | h | h
  · exact absurd h h2
  · exact h
  · exact absurd h h1) hs (sortL_le xs) (hp.trans (sortL_perm xs).symm)
def eqL (a b : List Int) : Bool := decide (a = b)
theorem eqL_iff (a b : List Int) : eqL a b = true ↔ a = b := by simp [eqL]
def distL (xs : List (List Int)) : List (List Int) := cmpct eqL (sortL xs)
theorem distL_strict (xs : List (List Int)) : (distL xs).Pairwise LtL :=
 cmpct_strict (R := LtL) eqL_iff (fun _ _ _ h k => h.trans k) (fun a b h k => by
  rcases ltL_tri a b with h2 | h2 | h2
  · exact h2
  · exact absurd h2 k
  · exact absurd h2 h) (fun a b h => h.asymm) _ (sortL_le xs)
theorem distL_mem (xs : List (List Int)) (x : List Int) : x ∈ distL xs ↔ x ∈ xs := by rw [distL, cmpct_mem eqL_iff, (sortL_perm xs).mem_iff]
theorem distL_eq {xs ys : List (List Int)} (hs : ys.Pairwise LtL) (hm : ∀ x, x ∈ ys ↔ x ∈ xs) : ys = distL xs := uniqL hs (distL_strict xs) fun x => by rw [hm, distL_mem]
theorem cmpct_sortL {xs ys : List (List Int)} (hp : ys.Perm xs) (hs : ys.Pairwise (fun a b => ¬ LtL b a)) : cmpct eqL ys = distL xs := by rw [sortL_eq hp hs]; rfl
def rankL (D : List (List Int)) (x : List Int) : Nat := D.countP fun d => decide (cmpL d x < 0)
theorem rankL_lt {D : List (List Int)} {x y : List Int} (hx : x ∈ D) (h : LtL x y) : rankL D x < rankL D y := by
 unfold rankL
 induction D with
 | nil => simp at hx
 | cons d D ih =>
  have mono : D.countP (fun d => decide (cmpL d x < 0)) ≤ D.countP fun d => decide (cmpL d y < 0) := List.countP_mono_left fun e _ he => by
   simp only [decide_eq_true_eq] at *
   exact LtL.trans (show LtL e x from he) h
  rw [List.countP_cons, List.countP_cons]
  rcases List.mem_cons.1 hx with rfl | hx
  · have h1 : ¬ cmpL x x < 0 := LtL.irrefl x
    have h2 : cmpL x y < 0 := h
    rw [if_neg (by simpa using h1), if_pos (by simpa using h2)]
    omega
  · have := ih hx
    by_cases h1 : cmpL d x < 0
    · have h2 : cmpL d y < 0 := LtL.trans (show LtL d x from h1) h
      rw [if_pos (by simpa using h1), if_pos (by simpa using h2)]
      omega
    · rw [if_neg (by simpa using h1)]
      omega
theorem rankL_inj {D : List (List Int)} {x y : List Int} (hx : x ∈ D) (hy : y ∈ D) (h : rankL D x = rankL D y) : x = y := by
 rcases ltL_tri x y with k | k | k
 · have := rankL_lt hx k; omega
 · exact k
 · have := rankL_lt hy k; omega
theorem rankL_at {D : List (List Int)} {x : List Int} {p : Nat} (hp : p ≤ D.length) (h1 : ∀ i (h : i < D.length), i < p → LtL D[i] x) (h2 : ∀ i (h : i < D.length), p ≤ i → ¬ LtL D[i] x) : rankL D x = p := by
 unfold rankL
 induction D generalizing p with
 | nil => simp at hp ⊢; omega
 | cons d D ih =>
  rw [List.countP_cons]
  cases p with
  | zero =>
   have h0 : ¬ cmpL d x < 0 := h2 0 (by simp) (by omega)
   have := ih (p := 0) (by omega) (fun i h hi => by omega) (fun i h _ => by
    have := h2 (i + 1) (by simp; omega) (by omega)
    simpa using this)
   rw [this, if_neg (by simpa using h0)]
  | succ p =>
   have h0 : cmpL d x < 0 := h1 0 (by simp) (by omega)
   have := ih (p := p) (by simp at hp; omega) (fun i h hi => by
    have := h1 (i + 1) (by simp; omega) (by omega)
    simpa using this) (fun i h hi => by
    have := h2 (i + 1) (by simp; omega) (by omega)
    simpa using this)
   rw [this, if_pos (by simpa using h0)]
theorem rankL_get {D : List (List Int)} (hD : D.Pairwise LtL) {i : Nat} (hi : i < D.length) : rankL D D[i] = i :=
 rankL_at (by omega) (fun j h hj => List.pairwise_iff_getElem.1 hD j i h hi hj) (fun j h hj k => by
  rcases Nat.lt_or_eq_of_le hj with h2 | h2
  · exact LtL.asymm (List.pairwise_iff_getElem.1 hD i j hi h h2) k
  · subst h2; exact LtL.irrefl _ k)
theorem exists_dedup {α : Type} [DecidableEq α] : ∀ l : List α, ∃ s : List α, s.Nodup ∧ (∀ x, x ∈ s ↔ x ∈ l) ∧ s.length ≤ l.length ∧ (s.length = l.length → l.Nodup)
 | [] => ⟨[], by simp, by simp, by simp, by simp⟩
 | a :: t => by
  obtain ⟨s, h1, h2, h3, h4⟩ := exists_dedup t
  by_cases h : a ∈ t
  · refine ⟨s, h1, fun x => ?_, by simp; omega, fun e => by simp at e; omega⟩
    rw [h2, List.mem_cons]
    constructor
    · exact .inr
    · rintro (rfl | h5)
      · exact h
      · exact h5
  · refine ⟨a :: s, List.nodup_cons.2 ⟨fun h5 => h ((h2 a).1 h5), h1⟩, fun x => by rw [List.mem_cons, List.mem_cons, h2], by simpa using h3, fun e => List.nodup_cons.2 ⟨h, h4 (by simpa using e)⟩⟩
theorem nodup_of_len {α : Type} [DecidableEq α] {l l' : List α} (hn : l'.Nodup) (hm : ∀ x, x ∈ l ↔ x ∈ l') (hl : l.length = l'.length) : l.Nodup := by
 obtain ⟨s, h1, h2, h3, h4⟩ := exists_dedup l
 have := ((List.perm_ext_iff_of_nodup h1 hn).2 fun x => by rw [h2, hm]).length_eq
 exact h4 (by omega)
theorem nodup_map_of {α β : Type} {f : α → β} {l : List α} (hn : l.Nodup) (hf : ∀ x ∈ l, ∀ y ∈ l, f x = f y → x = y) : (l.map f).Nodup := by
 rw [List.Nodup, List.pairwise_map]
 exact List.Pairwise.imp_of_mem (fun ha hb h e => h (hf _ ha _ hb e)) hn
theorem inj_of_nodup_map {α β : Type} {f : α → β} : ∀ {l : List α}, (l.map f).Nodup → ∀ x ∈ l, ∀ y ∈ l, f x = f y → x = y
 | [], _, x, hx, _, _, _ => by simp at hx
 | a :: l, h, x, hx, y, hy, e => by
  rw [List.map_cons, List.nodup_cons] at h
  rcases List.mem_cons.1 hx with h1 | h1 <;> rcases List.mem_cons.1 hy with h2 | h2
  · rw [h1, h2]
  · subst h1
    exact absurd (e ▸ List.mem_map_of_mem h2) h.1
  · subst h2
    exact absurd (e ▸ List.mem_map_of_mem h1) h.1
  · exact inj_of_nodup_map h.2 x h1 y h2 e
def hdI (xs : List Int) : Int := xs.headD 0
def keyAt (near : List (List Int)) (cells : List Int) (v : Nat) : List Int := nth cells v :: sortI ((nthL near v).map fun w => nth cells w.toNat)
def keysOf (near : List (List Int)) (cells : List Int) : List (List Int) := (List.range cells.length).map (keyAt near cells)
def ranks (K : List (List Int)) : List Int := K.map fun k => (rankL (distL K) k : Int)
def roundT (near : List (List Int)) (cells : List Int) : List Int := ranks (keysOf near cells)
def many (xs : List Int) : Nat := (distI xs).length
theorem keysOf_len (near : List (List Int)) (cells : List Int) : (keysOf near cells).length = cells.length := by simp [keysOf]
theorem keysOf_nth (near : List (List Int)) {cells : List Int} {v : Nat} (h : v < cells.length) : nthL (keysOf near cells) v = keyAt near cells v := by simp [keysOf, nthL, h]
theorem ranks_len (K : List (List Int)) : (ranks K).length = K.length := by simp [ranks]
theorem roundT_len (near : List (List Int)) (cells : List Int) : (roundT near cells).length = cells.length := by rw [roundT, ranks_len, keysOf_len]
theorem ranks_nth {K : List (List Int)} {v : Nat} (h : v < K.length) : nth (ranks K) v = (rankL (distL K) (nthL K v) : Int) := by simp [ranks, nth, nthL, h]
theorem roundT_nth (near : List (List Int)) {cells : List Int} {v : Nat} (h : v < cells.length) : nth (roundT near cells) v = (rankL (distL (keysOf near cells)) (keyAt near cells v) : Int) := by
 rw [roundT, ranks_nth (by rw [keysOf_len]; exact h), keysOf_nth _ h]
theorem many_ranks (K : List (List Int)) : many (ranks K) = (distL K).length := by
 have hs := distL_strict K
 have : (distL K).map (fun k => (rankL (distL K) k : Int)) = distI (ranks K) := by
  refine distI_eq ?_ fun x => ?_
  · rw [List.pairwise_map]
    exact List.Pairwise.imp_of_mem (fun {a b} ha _ h => by have := rankL_lt ha h; omega) hs
  · rw [ranks, List.mem_map, List.mem_map]
    constructor
    · rintro ⟨k, h1, h2⟩; exact ⟨k, (distL_mem _ _).1 h1, h2⟩
    · rintro ⟨k, h1, h2⟩; exact ⟨k, (distL_mem _ _).2 h1, h2⟩
 rw [many, ← this, List.length_map]
theorem many_same {K : List (List Int)} {C : List Int} (hl : K.length = C.length) (hh : ∀ v, v < C.length → hdI (nthL K v) = nth C v) :
    (distL K).length = many C ↔ ∀ u v, u < C.length → v < C.length → nth C u = nth C v → nthL K u = nthL K v := by
 have hm : ∀ x, x ∈ (distL K).map hdI ↔ x ∈ distI C := fun x => by
  rw [List.mem_map, distI_mem]
  constructor
  · rintro ⟨k, h1, rfl⟩
    rw [distL_mem] at h1
    obtain ⟨i, hi, rfl⟩ := List.getElem_of_mem h1
    have := hh i (by omega)
    rw [nthL_lt hi] at this
    rw [this]
    exact nth_mem (by omega)
  · intro h
    obtain ⟨i, hi, rfl⟩ := List.getElem_of_mem h
    refine ⟨nthL K i, by rw [distL_mem]; exact nthL_mem (by omega), ?_⟩
    rw [hh i hi, nth_lt hi]
 have hn := (distI_strict C).imp (fun {a b} (h : a < b) => (by omega : a ≠ b))
 constructor
 · intro e u v hu hv h
   have hnd : ((distL K).map hdI).Nodup := nodup_of_len hn hm (by rw [List.length_map]; exact e)
   exact inj_of_nodup_map hnd _ ((distL_mem _ _).2 (nthL_mem (by omega))) _ ((distL_mem _ _).2 (nthL_mem (by omega))) (by rw [hh u hu, hh v hv]; exact h)
 · intro h
   have hnd : ((distL K).map hdI).Nodup := nodup_map_of ((distL_strict K).imp LtL.ne) fun x hx y hy e => by
    rw [distL_mem] at hx hy
    obtain ⟨i, hi, rfl⟩ := List.getElem_of_mem hx
    obtain ⟨j, hj, rfl⟩ := List.getElem_of_mem hy
    rw [← nthL_lt hi, ← nthL_lt hj] at e ⊢
    rw [hh i (by omega), hh j (by omega)] at e
    exact h i j (by omega) (by omega) e
   have := ((List.perm_ext_iff_of_nodup hnd hn).2 hm).length_eq
   rw [List.length_map] at this
   exact this
def equit (near : List (List Int)) (C : List Int) : Bool := decide (many (roundT near C) = many C)
theorem equit_iff (near : List (List Int)) (C : List Int) : equit near C = true ↔ ∀ u v, u < C.length → v < C.length → nth C u = nth C v → keyAt near C u = keyAt near C v := by
 rw [equit, decide_eq_true_eq, roundT, many_ranks, many_same (keysOf_len near C) (fun v hv => by rw [keysOf_nth _ hv]; rfl)]
 constructor
 · intro h u v hu hv e
   have := h u v hu hv e
   rwa [keysOf_nth _ hu, keysOf_nth _ hv] at this
 · intro h u v hu hv e
   rw [keysOf_nth _ hu, keysOf_nth _ hv]
   exact h u v hu hv e
end Go.Proofs.YtgfcbmflnldicaaGreat
namespace Go.Proofs.YtgfcbmflnldicaaGreat
def InsAt (L xs : List Int) (k : Nat) : Prop := ∃ A x B, L = A ++ x :: B ∧ A.length = k ∧ (A ++ B).Pairwise (· ≤ ·) ∧ (∀ b ∈ B, x ≤ b) ∧ L.Perm xs
theorem InsAt.len {L xs : List Int} {k : Nat} (h : InsAt L xs k) : L.length = xs.length ∧ k < L.length := by
 obtain ⟨A, x, B, rfl, rfl, _, _, hp⟩ := h
 exact ⟨hp.length_eq, by simp⟩
theorem InsAt.first {L xs : List Int} (h : InsAt L xs 0) : L = sortI xs := by
 obtain ⟨A, x, B, rfl, hl, hs, hb, hp⟩ := h
 have hA := List.eq_nil_of_length_eq_zero hl
 subst hA
 exact sortI_eq hp (List.pairwise_cons.2 ⟨hb, hs⟩)
theorem InsAt.done {L xs : List Int} {m : Nat} (h : InsAt L xs (m + 1)) (hle : nth L m ≤ nth L (m + 1)) : L = sortI xs := by
 obtain ⟨A, x, B, rfl, hl, hs, hb, hp⟩ := h
 refine sortI_eq hp ?_
 have e1 : nth (A ++ x :: B) (m + 1) = x := by rw [nth, List.getD_eq_getElem?_getD, List.getElem?_append_right (by omega), hl, Nat.sub_self]; rfl
 have e2 : nth (A ++ x :: B) m = A[m] := by rw [nth, List.getD_eq_getElem?_getD, List.getElem?_append_left (by omega), List.getElem?_eq_getElem (by omega)]; rfl
 rw [e1, e2] at hle
 rw [List.pairwise_append] at hs ⊢
 refine ⟨hs.1, List.pairwise_cons.2 ⟨hb, hs.2.1⟩, fun a ha b hbm => ?_⟩
 rcases List.mem_cons.1 hbm with rfl | h2
 · obtain ⟨i, hi, rfl⟩ := List.getElem_of_mem ha
   rcases Nat.lt_or_ge i m with h3 | h3
   · have := List.pairwise_iff_getElem.1 hs.1 i m hi (by omega) h3
     omega
   · obtain rfl : i = m := by omega
     exact hle
 · exact hs.2.2 a ha b h2
end Go.Proofs.YtgfcbmflnldicaaGreat
