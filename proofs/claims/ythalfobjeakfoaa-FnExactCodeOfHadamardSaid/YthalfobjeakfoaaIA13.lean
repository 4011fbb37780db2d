/-
  Texts joined.
-/
import Derived.Test.YthalfobjeakfoaaIA1
import Derived.Test.YthalfobjeakfoaaIA5
import Derived.Test.YthalfobjeakfoaaIA6
import Derived.Test.YthalfobjeakfoaaIA8
import Derived.Test.YthalfobjeakfoaaIA12
set_option linter.unusedVariables false
set_option linter.unusedSimpArgs false
set_option maxRecDepth 100000
set_option maxHeartbeats 40000000
namespace Go.Proofs.Ythalfobjeakfoaa
open Go.RowKit
attribute [local go_sem ↓] Go.wp_at_zero Go.wp_at_succ
theorem fdOf_good {q : Int} (h : isField q = true) : (fdOf q).Good := by
 obtain ⟨ok, hq, hs⟩ := fdOf_ok h
 exact ⟨ok, by rw [hq]; exact hs⟩
end Go.Proofs.Ythalfobjeakfoaa
namespace Go.Proofs.Ythalfobjeakfoaa
def dotTo (a b : List Int) : Nat → Int
 | 0 => 0
 | k + 1 => dotTo a b k + nth a k * nth b k
def notSign (x : Int) : Bool := decide (x ≠ 1) && decide (x ≠ -1)
def hadRow (n : Nat) (xs : List Int) : Bool := decide (xs.length = n) && !xs.any notSign
def dots (h : List (List Int)) (i j : Nat) : Int := dotTo (nthL h i) (nthL h j) h.length
def hadOk (h : List (List Int)) : Bool := decide (1 ≤ h.length ∧ h.length ≤ 32) && ((List.range h.length).all (fun i => hadRow h.length (nthL h i)) && (List.range h.length).all fun i => (List.range i).all fun j => decide (dots h i j = 0))
theorem hadOk_iff {h : List (List Int)} : hadOk h = true ↔ (1 ≤ h.length ∧ h.length ≤ 32) ∧ (∀ i, i < h.length → hadRow h.length (nthL h i) = true) ∧ ∀ i, i < h.length → ∀ j, j < i → dots h i j = 0 := by
 rw [hadOk, Bool.and_eq_true, Bool.and_eq_true, decide_eq_true_eq, List.all_eq_true, List.all_eq_true]
 simp only [List.mem_range, List.all_eq_true, decide_eq_true_eq]
theorem hadOk_row {h : List (List Int)} {i : Nat} (hi : i < h.length) (hr : hadRow h.length (nthL h i) = false) : hadOk h = false := by
 rw [← Bool.not_eq_true, hadOk_iff]
 rintro ⟨_, h2, _⟩
 rw [h2 i hi] at hr
 cases hr
theorem hadOk_dot {h : List (List Int)} {i j : Nat} (hi : i < h.length) (hj : j < i) (hd : dots h i j ≠ 0) : hadOk h = false := by
 rw [← Bool.not_eq_true, hadOk_iff]
 rintro ⟨_, _, h3⟩
 exact hd (h3 i hi j hj)
theorem hadOk_len {h : List (List Int)} (hl : ¬ (1 ≤ h.length ∧ h.length ≤ 32)) : hadOk h = false := by
 rw [← Bool.not_eq_true, hadOk_iff]
 rintro ⟨h1, _⟩
 exact hl h1
theorem hadRow_el {n : Nat} {xs : List Int} (h : hadRow n xs = true) : xs.length = n ∧ ∀ k, k < n → nth xs k = 1 ∨ nth xs k = -1 := by
 rw [hadRow, Bool.and_eq_true, decide_eq_true_eq, Bool.not_eq_true', List.any_eq_false] at h
 refine ⟨h.1, fun k hk => ?_⟩
 have := h.2 _ (nth_mem (xs := xs) (k := k) (by omega))
 rw [notSign, Bool.and_eq_true, decide_eq_true_eq, decide_eq_true_eq] at this
 omega
theorem hadRow_bad {n : Nat} {xs : List Int} {k : Nat} (hk : k < xs.length) (h1 : nth xs k ≠ 1) (h2 : nth xs k ≠ -1) : hadRow n xs = false := by
 rw [hadRow, Bool.and_eq_false_iff]
 right
 rw [Bool.not_eq_false', List.any_eq_true]
 exact ⟨_, nth_mem hk, by rw [notSign]; simp [h1, h2]⟩
theorem hadRow_len {n : Nat} {xs : List Int} (h : xs.length ≠ n) : hadRow n xs = false := by rw [hadRow]; simp [h]
theorem hadRow_yes {n : Nat} {xs : List Int} (h : xs.length = n) (hk : ∀ k, k < n → nth xs k = 1 ∨ nth xs k = -1) : hadRow n xs = true := by
 rw [hadRow, Bool.and_eq_true, decide_eq_true_eq, Bool.not_eq_true', List.any_eq_false]
 refine ⟨h, fun x hx => ?_⟩
 obtain ⟨i, hi, rfl⟩ := List.getElem_of_mem hx
 rw [← nth_lt hi, notSign, Bool.and_eq_true, decide_eq_true_eq, decide_eq_true_eq]
 have := hk i (by omega)
 omega
theorem sign_mul {x y : Int} (hx : x = 1 ∨ x = -1) (hy : y = 1 ∨ y = -1) : x * y = 1 ∨ x * y = -1 := by
 rcases hx with rfl | rfl <;> rcases hy with rfl | rfl <;> simp
theorem dot_bd {n : Nat} {a b : List Int} (ha : ∀ k, k < n → nth a k = 1 ∨ nth a k = -1) (hb : ∀ k, k < n → nth b k = 1 ∨ nth b k = -1) : ∀ k, k ≤ n → -(k : Int) ≤ dotTo a b k ∧ dotTo a b k ≤ k
 | 0, _ => by simp [dotTo]
 | k + 1, h => by
  have ih := dot_bd ha hb k (by omega)
  have := sign_mul (ha k (by omega)) (hb k (by omega))
  rw [dotTo]
  omega
def bitR (xs : List Int) (n : Nat) : List Int := (List.range n).map fun k => (1 - nth xs k).tdiv 2
theorem bitR_len (xs : List Int) (n : Nat) : (bitR xs n).length = n := by simp [bitR]
theorem bitR_succ (xs : List Int) (n : Nat) : bitR xs (n + 1) = bitR xs n ++ [(1 - nth xs n).tdiv 2] := by simp [bitR, List.range_succ]
def bitRows (h : List (List Int)) (n m : Nat) : List (List Int) := (List.range m).map fun i => bitR (nthL h i) n
theorem bitRows_len (h : List (List Int)) (n m : Nat) : (bitRows h n m).length = m := by simp [bitRows]
theorem bitRows_succ (h : List (List Int)) (n m : Nat) : bitRows h n (m + 1) = bitRows h n m ++ [bitR (nthL h m) n] := by simp [bitRows, List.range_succ]
theorem bit_sign {x : Int} (h : x = 1 ∨ x = -1) : (1 - x).tdiv 2 = 0 ∨ (1 - x).tdiv 2 = 1 := by rcases h with rfl | rfl <;> decide
theorem bitRows_Mat {F : FD} (ok : F.Ok) {h : List (List Int)} (hr : ∀ i, i < h.length → hadRow h.length (nthL h i) = true) : F.Mat h.length (bitRows h h.length h.length) := by
 intro xs hx
 obtain ⟨i, hi, rfl⟩ := List.mem_map.1 hx
 refine ⟨bitR_len _ _, fun x hx => ?_⟩
 obtain ⟨k, hk, rfl⟩ := List.mem_map.1 hx
 have := bit_sign ((hadRow_el (hr i (List.mem_range.1 hi))).2 k (List.mem_range.1 hk))
 have := ok.n_bd
 omega
theorem isField_2 : isField 2 = true := by decide +kernel
def hadRes (h : List (List Int)) : Int × Int × List Int × List (List Int) × Int :=
 if hadOk h = true then mkC (fdOf 2) (form (fdOf 2) (bitRows h h.length h.length) h.length) else (0, 0, [], [], 1)
end Go.Proofs.Ythalfobjeakfoaa
namespace Go.Proofs.Ythalfobjeakfoaa
open Go.RowKit
attribute [local go_sem ↓] Go.wp_at_zero Go.wp_at_succ
theorem below_drewN {B : Nat} {a w : World} (h : Below B a w) (k : Nat) : Below B a (w.drewN k) := h.trans (Qt.below ⟨k, rfl⟩ _)
theorem ent_vh1 : ∀ (args : Array Value) (w : World), (callFunc 151 args).run Try.prog w = .ok (.enter 151 args) w := fun _ _ => by kernel_rfl
theorem notSign_any (x : Int) (w : World) : Calls Try.prog 151 #[.int .i64 x] w fun e w' => e = .returned (.bool (notSign x)) ∧ Below w.heap.size w w' := by
 unfold notSign
 by_cases h1 : x = 1
 · have e1 : (x != 1) = false := by simpa using h1
   have e2 : decide (x ≠ 1) = false := by simpa using h1
   rw [e2]
   clear h1 e2
   go_enter Try.func151, Try.ntmps151
   go_wp2
   go_ret
   exact ⟨rfl, Below.refl _ _⟩
 · have e1 : (x != 1) = true := by simpa using h1
   have e2 : decide (x ≠ 1) = true := by simpa using h1
   rw [e2]
   clear h1 e2
   by_cases h2 : x = -1
   · have e3 : (x != -1) = false := by simpa using h2
     have e4 : decide (x ≠ -1) = false := by simpa using h2
     rw [e4]
     clear h2 e4
     go_enter Try.func151, Try.ntmps151
     go_wp2
     go_ret
     exact ⟨rfl, Below.refl _ _⟩
   · have e3 : (x != -1) = true := by simpa using h2
     have e4 : decide (x ≠ -1) = true := by simpa using h2
     rw [e4]
     clear h2 e4
     go_enter Try.func151, Try.ntmps151
     go_wp2
     go_ret
     exact ⟨rfl, Below.refl _ _⟩
theorem l15Dot_any (a b : Option Addr) (c d n : Nat) (xs ys : List Int) (w : World) (hx : Rd w a xs) (hy : Rd w b ys) (hn : xs.length = n) (hm : ys.length = n) (hx1 : ∀ k, k < n → nth xs k = 1 ∨ nth xs k = -1) (hy1 : ∀ k, k < n → nth ys k = 1 ∨ nth ys k = -1) :
    Calls Try.prog 148 #[.slice a n c, .slice b n d] w fun e w' => e = .returned (.int .i64 (dotTo xs ys n)) ∧ Below w.heap.size w w' := by
 have hxl := hx.len
 have hbd := dot_bd hx1 hy1
 have HBD := hide hbd
 have HN := Lib.hid hn
 have HM := Lib.hid hm
 have HX := hide hx
 have HY := hide hy
 have HX1 := hide hx1
 have HY1 := hide hy1
 rw [hn] at hxl
 clear hbd hn hm hx hy hx1 hy1
 go_enter Try.func148, Try.ntmps148
 go_wp2_with fail
 go_loopw [5, 6] (fun sv iv wr => ∃ k : Nat, iv = .int .i64 k ∧ sv = .int .i64 (dotTo xs ys k) ∧ k ≤ n ∧ Below w.heap.size w wr) (fun _ iv _ => n - (intOf iv).toNat)
 case atStart => exact ⟨0, rfl, rfl, Nat.zero_le _, Below.refl _ _⟩
 case round =>
  obtain ⟨k, rfl, rfl, hk, hb⟩ := hrel
  by_cases hkn : k < n
  · obtain ⟨b1, o1, rfl, hbx, hcx⟩ := (unhide HX).at_ (by have := (HN).out; omega)
    obtain ⟨b2, o2, rfl, hby, hcy⟩ := (unhide HY).at_ (by have := HM.out; omega)
    have g1 := hcx k (by have := (HN).out; omega)
    have g2 := hcy k (by have := HM.out; omega)
    have g1 := (hb.cell (p := ⟨b1, o1 + k, none⟩) hbx).trans g1
    have g2 := (hb.cell (p := ⟨b2, o2 + k, none⟩) hby).trans g2
    obtain ⟨x, hx⟩ : ∃ x, x = nth xs k := ⟨_, rfl⟩
    obtain ⟨y, hy⟩ : ∃ y, y = nth ys k := ⟨_, rfl⟩
    obtain ⟨s, hs⟩ : ∃ s, s = dotTo xs ys k := ⟨_, rfl⟩
    have hbd := unhide HBD k (by omega)
    have hxv := unhide HX1 k hkn
    have hyv := unhide HY1 k hkn
    have hd : dotTo xs ys (k + 1) = s + x * y := by rw [dotTo, hs, hx, hy]
    rw [← hx] at g1 hxv
    rw [← hy] at g2 hyv
    rw [← hs] at hbd
    obtain ⟨m, hm⟩ : ∃ m, m = x * y := ⟨_, rfl⟩
    have hmv := sign_mul hxv hyv
    rw [← hm] at hmv hd
    have HD := Lib.hid hd
    have hw1 : IntKind.i64.wrap (x * y) = m := by rw [← hm]; exact IntWalk.i64_in _ (by omega)
    have hw2 : IntKind.i64.wrap (s + m) = s + m := IntWalk.i64_in _ (by omega)
    rw [← hs]
    clear hcx hcy hx hy hd hm hxv hyv hmv hbd hs
    go_upto_region 5 with fail
    go_quiet (fail)
    go_wp2_with fail
    go_roundw
    case rel => exact ⟨k + 1, by go_num, by rw [HD.out], by omega, below_drewN hb _⟩
    case measure => simp only [intOf]; omega
  · have hke : k = n := by omega
    have HK := Lib.hid hke
    clear hke
    go_wp2_with fail
    go_ret
    exact ⟨by rw [HK.out]; rfl, hb⟩
theorem implVH_any (ra : Option Addr) (rc : Nat) (h : List (List Int)) (w : World) (hx : RdS w ra h) (hc : h.length ≤ rc) :
    Calls Try.prog 97 #[.slice ra h.length rc] w fun e w' => e = .returned (.bool (hadOk h)) ∧ Below w.heap.size w w' := by
 have hxl := hx.len
 generalize hR : hadOk h = r
 have HR := Lib.hid hR
 obtain ⟨n, hn⟩ : ∃ n, n = h.length := ⟨_, rfl⟩
 have HN := Lib.hid hn
 have HX := hide hx
 rw [← hn] at hxl hc ⊢
 have hsz0 := fun W => sizeS_any ra n rc W
 have HSZ := hide hsz0
 have hin : (inB (n : Int) 1 32) = decide (1 ≤ n ∧ n ≤ 32) := by unfold inB; rw [decide_eq_decide]; omega
 have hwi := fun W => within_any (n : Int) 1 32 W
 rw [hin] at hwi
 have HWI := hide hwi
 clear hx hR hn hsz0 hin hwi
 go_enter Try.func97, Try.ntmps97
 go_wp2_with fail
 refine (unhide HSZ _).mono ?_
 rintro e w1 ⟨rfl, rfl⟩
 go_wp2_with fail
 go_loopw [14] (fun iv wr => ∃ i : Nat, iv = .int .i64 i ∧ i ≤ n ∧ Below w.heap.size w wr ∧ Hid (∀ k, k < i → hadRow n (nthL h k) = true ∧ ∀ j, j < k → dots h k j = 0)) (fun iv _ => n - (intOf iv).toNat)
 case atStart => exact ⟨0, rfl, Nat.zero_le _, Below.refl _ _, fun k hk => by omega⟩
 case round =>
  obtain ⟨i, rfl, hi, hb, hq⟩ := hrel
  have hsz := hb.size
  by_cases hin : i < n
  · have hih : i < h.length := by rw [← HN.out]; exact hin
    obtain ⟨b0, off, rfl, hb0, hcc⟩ := (unhide HX).at_ (by omega)
    obtain ⟨ai, ci, h1, hri⟩ := hcc i hih
    have hl0 := (hb.cell (p := ⟨b0, off + i, none⟩) hb0).trans h1
    obtain ⟨xs, hxs⟩ : ∃ xs, xs = nthL h i := ⟨_, rfl⟩
    rw [← hxs] at hl0 hri
    have hsz1 := fun W => size_any ai xs.length ci W
    have HSI := hide hsz1
    have hco := hasI0 151 notSign ai ci xs wr ent_vh1 (hri.below hb) (fun k W _ _ => notSign_any _ _)
    have HXS := Lib.hid hxs
    have HRI := hide hri
    clear hsz1 hcc h1 hri hxs
    by_cases hln : xs.length = n
    case neg =>
     have e1 : ((xs.length : Int) != (n : Int)) = true := by rw [bne_iff_ne]; omega
     have hno : r = false := by rw [← HR.out]; exact hadOk_row hih (by rw [← HN.out, ← HXS.out]; exact hadRow_len hln)
     have HNO := Lib.hid hno
     clear hln hno hco
     go_wp2_with fail
     refine (unhide HSI _).mono ?_
     rintro e w2 ⟨rfl, rfl⟩
     go_wp2_with fail
     go_ret
     exact ⟨by rw [HNO.out]; rfl, hb⟩
    have e1 : ((xs.length : Int) != (n : Int)) = false := by rw [bne_eq_false_iff_eq]; omega
    have HLN := Lib.hid hln
    cases hany : xs.any notSign with
    | true =>
     rw [hany] at hco
     have HCO := hide hco
     have hno : r = false := by rw [← HR.out]; exact hadOk_row hih (by rw [← HN.out, ← HXS.out, hadRow, hany]; simp)
     have HNO := Lib.hid hno
     clear hln hno hco hany
     go_wp2_with fail
     refine (unhide HSI _).mono ?_
     rintro e w2 ⟨rfl, rfl⟩
     go_wp2_with fail
     refine (unhide HCO).mono ?_
     rintro e w3 ⟨rfl, b3⟩
     go_wp2_with fail
     go_ret
     exact ⟨by rw [HNO.out]; rfl, hb.trans (b3.mono hsz)⟩
    | false =>
     rw [hany] at hco
     have HCO := hide hco
     have hrow : hadRow n xs = true := by rw [hadRow, hany, hln]; simp
     have HROW := Lib.hid hrow
     rw [hln] at hl0 e1 HSI HCO
     have hic : i ≤ rc := by omega
     clear hln hco hany hrow
     go_wp2_with fail
     refine (unhide HSI _).mono ?_
     rintro e w2 ⟨rfl, rfl⟩
     go_wp2_with fail
     refine (unhide HCO).mono ?_
     rintro e w3 ⟨rfl, b3⟩
     have hb3 := hb.trans (b3.mono hsz)
     clear e1
     go_wp2_with fail
     go_loopw [31] (fun iv wr => ∃ j : Nat, iv = .int .i64 j ∧ j ≤ i ∧ Below w.heap.size w wr ∧ Hid (∀ k, k < j → dots h i k = 0)) (fun iv _ => i - (intOf iv).toNat)
     case atStart => exact ⟨0, rfl, Nat.zero_le _, hb3, fun k hk => by omega⟩
     case round =>
      obtain ⟨j, rfl, hj, hb, hqj⟩ := hrel
      have hsz := hb.size
      by_cases hji : j < i
      · obtain ⟨_, _, e, _, hcc⟩ := (unhide HX).at_ (by omega)
        injection e with e
        injection e with e e2
        subst e
        subst e2
        obtain ⟨aj, cj, h1, hrj⟩ := hcc j (by omega)
        have hl1 := (hb.cell (p := ⟨b0, off + j, none⟩) hb0).trans h1
        obtain ⟨ys, hys⟩ : ∃ ys, ys = nthL h j := ⟨_, rfl⟩
        have hrowj := (hq.out j hji).1
        rw [← hys] at hl1 hrj hrowj
        have hly := (hadRow_el hrowj).1
        rw [hly] at hl1
        have HX1 := hide (hadRow_el HROW.out).2
        have HY1 := hide (hadRow_el hrowj).2
        have HBD := hide (dot_bd (hadRow_el HROW.out).2 (hadRow_el hrowj).2)
        have HRX := HRI
        have HRY := hide hrj
        have HLY := Lib.hid hly
        have HYS := Lib.hid hys
        obtain ⟨wj, hwj⟩ : ∃ z : World, z = wr := ⟨_, rfl⟩
        clear hcc h1 hrj hys hrowj hly
        go_wp2_with fail
        go_loopw [8, 37] (fun sv iv wr => ∃ k : Nat, iv = .int .i64 k ∧ sv = .int .i64 (dotTo xs ys k) ∧ k ≤ n ∧ Below w.heap.size w wr) (fun _ iv _ => n - (intOf iv).toNat)
        case atStart => exact ⟨0, rfl, rfl, Nat.zero_le _, hb⟩
        case round =>
         obtain ⟨k, rfl, rfl, hk, hb⟩ := hrel
         by_cases hkn : k < n
         · skip
           obtain ⟨b1, o1, rfl, hbx, hcx⟩ := (unhide HRX).at_ (by have := ((Lib.hid (hadRow_el HROW.out).1)).out; omega)
           obtain ⟨b2, o2, rfl, hby, hcy⟩ := (unhide HRY).at_ (by have := HLY.out; omega)
           have g1 := hcx k (by have := ((Lib.hid (hadRow_el HROW.out).1)).out; omega)
           have g2 := hcy k (by have := HLY.out; omega)
           have g1 := (hb.cell (p := ⟨b1, o1 + k, none⟩) hbx).trans g1
           have g2 := (hb.cell (p := ⟨b2, o2 + k, none⟩) hby).trans g2
           obtain ⟨x, hx⟩ : ∃ x, x = nth xs k := ⟨_, rfl⟩
           obtain ⟨y, hy⟩ : ∃ y, y = nth ys k := ⟨_, rfl⟩
           obtain ⟨s, hs⟩ : ∃ s, s = dotTo xs ys k := ⟨_, rfl⟩
           have hbd := unhide HBD k (by omega)
           have hxv := unhide HX1 k hkn
           have hyv := unhide HY1 k hkn
           have hd : dotTo xs ys (k + 1) = s + x * y := by rw [dotTo, hs, hx, hy]
           rw [← hx] at g1 hxv
           rw [← hy] at g2 hyv
           rw [← hs] at hbd
           obtain ⟨m, hm⟩ : ∃ m, m = x * y := ⟨_, rfl⟩
           have hmv := sign_mul hxv hyv
           rw [← hm] at hmv hd
           have HD := Lib.hid hd
           have hw1 : IntKind.i64.wrap (x * y) = m := by rw [← hm]; exact IntWalk.i64_in _ (by omega)
           have hw2 : IntKind.i64.wrap (s + m) = s + m := IntWalk.i64_in _ (by omega)
           rw [← hs]
           clear hcx hcy hx hy hd hm hxv hyv hmv hbd hs
           go_upto_region 14 with fail
           go_quiet (fail)
           go_wp2_with fail
           go_roundw
           case rel => exact ⟨k + 1, by go_num, by rw [HD.out], by omega, below_drewN hb _⟩
           case measure => simp only [intOf]; omega
         · have hke : k = n := by omega
           have hd : dotTo xs ys k = dots h i j := by rw [hke, dots, HN.out, HXS.out, HYS.out]
           obtain ⟨s, hs⟩ : ∃ s, s = dots h i j := ⟨_, rfl⟩
           rw [← hs] at hd
           rw [hd]
           by_cases hs0 : s = 0
           · have HS := Lib.hid (show dots h i j = 0 by rw [← hs]; exact hs0)
             have es : (s != 0) = false := by simpa using hs0
             clear hke hd hs hs0
             go_wp2_with fail
             go_roundw
             case rel =>
              refine ⟨j + 1, by go_num, by omega, hb, fun k hk => ?_⟩
              rcases Nat.lt_succ_iff_lt_or_eq.1 hk with h | rfl
              · exact hqj.out k h
              · exact HS.out
             case measure => simp only [intOf]; omega
           · have hno : r = false := by rw [← HR.out]; exact hadOk_dot hih hji (by rw [← hs]; exact hs0)
             have HNO := Lib.hid hno
             have es : (s != 0) = true := by simpa using hs0
             clear hke hd hs hs0 hno
             go_wp2_with fail
             go_ret
             exact ⟨by rw [HNO.out]; rfl, hb⟩
      · have hje : j = i := by omega
        have HJ := Lib.hid hje
        clear hje
        go_wp2_with fail
        go_roundw
        case rel =>
         refine ⟨i + 1, by go_num, by omega, hb, fun k hk => ?_⟩
         rcases Nat.lt_succ_iff_lt_or_eq.1 hk with h | rfl
         · exact hq.out k h
         · exact ⟨by rw [← HXS.out]; exact HROW.out, fun j' hj' => hqj.out j' (by rw [HJ.out]; exact hj')⟩
        case measure => simp only [intOf]; omega
  · have hie : i = n := by omega
    obtain ⟨l, hl⟩ : ∃ l, l = decide (1 ≤ n ∧ n ≤ 32) := ⟨_, rfl⟩
    rw [← hl] at HWI
    have hres : r = l := by
     rw [← HR.out, hl]
     by_cases hd : 1 ≤ n ∧ n ≤ 32
     · rw [decide_eq_true hd, hadOk_iff]
       have h1 := HN.out
       exact ⟨by omega, fun k hk => by have := (hq.out k (by omega)).1; rw [← h1]; exact this, fun k hk => (hq.out k (by omega)).2⟩
     · rw [decide_eq_false hd]
       exact hadOk_len (by have h1 := HN.out; omega)
    have HRES := Lib.hid hres
    clear hl hres hie
    go_wp2_with fail
    refine (unhide HWI _).mono ?_
    rintro e w2 ⟨rfl, rfl⟩
    go_wp2_with fail
    go_ret
    exact ⟨by rw [HRES.out]; rfl, hb⟩
end Go.Proofs.Ythalfobjeakfoaa
namespace Go.Proofs.Ythalfobjeakfoaa
open Go.RowKit
attribute [local go_sem ↓] Go.wp_at_zero Go.wp_at_succ
theorem ent_ch1 : ∀ (args : Array Value) (w : World), (callFunc 100 args).run Try.prog w = .ok (.enter 100 args) w := fun _ _ => by kernel_rfl
theorem bit_any (gh : Nat) (ra : Option Addr) (rc n : Nat) (h : List (List Int)) (i k : Nat) (w : World) (hg : w.cell? ⟨gh, 0, none⟩ = some (.slice ra n rc)) (hx : RdS w ra h) (hn : h.length = n) (hrows : ∀ i, i < h.length → hadRow h.length (nthL h i) = true) (hi : i < n) (hk : k < n) (hnb : n ≤ 32) :
    Calls Try.prog 100 #[.int .i64 i, .int .i64 k, .pointer (some ⟨gh, 0, none⟩)] w fun e w' => e = .returned (.int .i64 ((1 - nth (nthL h i) k).tdiv 2)) ∧ Below w.heap.size w w' := by
 have HN := Lib.hid hn
 have HX := hide hx
 have HROWS := hide hrows
 have hb := Below.refl w.heap.size w
 have hxl : h.length ≤ 32 := by omega
 clear hx hrows hn
 obtain ⟨hb0, hoff, rfl, hhb, hcc⟩ := (unhide HX).at_ (by have := HN.out; omega)
 obtain ⟨ai, ci, h1, hri⟩ := hcc i (by have := HN.out; omega)
 have hrl := hadRow_el ((unhide HROWS) i (by have := HN.out; omega))
 obtain ⟨xs, hxs⟩ : ∃ xs, xs = nthL h i := ⟨_, rfl⟩
 rw [← hxs] at h1 hri hrl
 rw [hrl.1, HN.out] at h1
 obtain ⟨xb, xo, rfl, hxb, hxc⟩ := hri.at_ (by rw [hrl.1, HN.out]; omega)
 have g1 := hxc k (by rw [hrl.1, HN.out]; omega)
 have hl0 := (hb.cell (p := ⟨hb0, hoff + i, none⟩) hhb).trans h1
 have hx1 := (hb.cell (p := ⟨xb, xo + k, none⟩) hxb).trans g1
 obtain ⟨x, hxx⟩ : ∃ x, x = nth xs k := ⟨_, rfl⟩
 have hsg := hrl.2 k (by rw [HN.out]; omega)
 rw [← hxx] at hx1 hsg
 obtain ⟨z, hz⟩ : ∃ z, z = 1 - x := ⟨_, rfl⟩
 have hw1 : IntKind.i64.wrap (1 - x) = z := by rw [hz]; exact IntWalk.i64_in _ (by omega)
 have hbt : z.tdiv 2 = 0 ∨ z.tdiv 2 = 1 := by rw [hz]; exact bit_sign hsg
 obtain ⟨y, hy⟩ : ∃ y, y = z.tdiv 2 := ⟨_, rfl⟩
 have hw2 : z.tdiv 2 = y := hy.symm
 rw [← hy] at hbt
 have hw3 : IntKind.i64.wrap y = y := IntWalk.i64_in _ (by omega)
 rw [← hxs, ← hxx, ← hz, ← hy]
 clear hcc h1 hri hrl hxs hxc g1 hxx hsg hz hy hb hxl
 go_enter Try.func100, Try.ntmps100
 go_wp2_with fail
 go_ret
 exact ⟨rfl, Below.refl _ _⟩
theorem filled_any (gh : Nat) (ra : Option Addr) (rc n : Nat) (h : List (List Int)) (w : World) (hg : Blk w gh 27 #[.slice ra n rc]) (hx : RdS w ra h) (hn : h.length = n) (hrows : ∀ i, i < h.length → hadRow h.length (nthL h i) = true) (hnb : n ≤ 32) :
    Calls Try.prog 98 #[.int .i64 n, (.func (.func 100) #[] #[.pointer (some ⟨gh, 0, none⟩)])] w fun e w' => ∃ v, e = .returned v ∧ OwnS w' w.heap.size v (bitRows h n n) ∧ Below w.heap.size w w' := by
 have hent := ent_ch1
 have hbi := fun (i k : Nat) (hi : i < n) (hk : k < n) W (hb : Below w.heap.size w W) => bit_any gh ra rc n h i k W ((hg.below hb hg.lt).cell 0) (hx.below hb) hn hrows hi hk hnb
 have HBI := hide hbi
 clear hbi hg hx hn hrows
 go_enter Try.func98, Try.ntmps98
 go_wp2_with fail
 go_loopw [5, 6] (fun v iv wr => ∃ m : Nat, iv = .int .i64 m ∧ m ≤ n ∧ Hid (OwnS wr w.heap.size v (bitRows h n m)) ∧ Below w.heap.size w wr) (fun _ iv _ => n - (intOf iv).toNat)
 case atStart => exact ⟨0, rfl, Nat.zero_le _, OwnS.nil _ _, Below.refl _ _⟩
 case round =>
  obtain ⟨m, rfl, hm, ho, hb⟩ := hrel
  have hsz := hb.size
  rename World => wo
  by_cases hmn : m < n
  · have hml : (bitRows h n m).length = m := bitRows_len _ _ _
    have HML := Lib.hid hml
    clear hml
    go_wp2_with fail
    go_loopw [7, 8] (fun v iv wr => ∃ k : Nat, iv = .int .i64 k ∧ k ≤ n ∧ Hid (Own wr wo.heap.size v (bitR (nthL h m) k)) ∧ Below wo.heap.size wo wr) (fun _ iv _ => n - (intOf iv).toNat)
    case atStart => exact ⟨0, rfl, Nat.zero_le _, Own.nil _ _, Below.refl _ _⟩
    case round =>
     obtain ⟨k, rfl, hk, hor, hbr⟩ := hrel
     have hbw := hb.trans (hbr.mono hsz)
     have hszr := hbr.size
     by_cases hkn : k < n
     · have hcl := (unhide HBI) m k hmn hkn wr hbw
       have hst := bitR_succ (nthL h m) k
       obtain ⟨y, hy⟩ : ∃ y, y = (1 - nth (nthL h m) k).tdiv 2 := ⟨_, rfl⟩
       rw [← hy] at hcl hst
       have hrl : (bitR (nthL h m) k).length = k := bitR_len _ _
       obtain ⟨row, hrw⟩ : ∃ row, row = bitR (nthL h m) k := ⟨_, rfl⟩
       rw [← hrw] at hor hst hrl
       have HCL := hide hcl
       have HST := Lib.hid hst
       have HRL := Lib.hid hrl
       clear hcl hst hy hrw hrl
       go_wp2_with fail
       refine (unhide HCL).mono ?_
       rintro e w3 ⟨rfl, b3⟩
       have hb3 := hbr.trans (b3.mono hszr)
       have o3 := hor.out.below b3 (Nat.le_refl _)
       have s3 := hb3.size
       obtain ⟨a3, c3, rfl, _, _⟩ := o3.form
       have O3 := hide o3
       clear o3 hor
       go_wp2_with (at_builtin; refine wpList_append_ints rfl (.tmp 19) (.tmp 24) rfl wo.heap.size _ row [y] rfl ((unhide O3).alloc _) _ 1 1 rfl rfl (Rd.one w3 y _) (by rw [HRL.out]; simp; omega) (by simp; omega) ?_; intro v5 w5 o5 g5 _)
       go_roundw
       case rel => exact ⟨k + 1, by go_num, by omega, by show Own _ _ _ _; rw [HST.out]; exact o5, (hb3.alloc (by omega) _).grown g5 (by simp; omega) (fun q hq => by have := ((unhide O3).lt q hq).1; omega)⟩
       case measure => simp only [intOf]; omega
     · have hke : k = n := by omega
       have oR := hor.out
       rw [hke] at oR
       obtain ⟨a4, c4, rfl, _, _⟩ := oR.form
       have hrl : (bitR (nthL h m) n).length = n := bitR_len _ _
       obtain ⟨row, hrw⟩ : ∃ row, row = bitR (nthL h m) n := ⟨_, rfl⟩
       have hst := bitRows_succ h n m
       rw [← hrw] at oR hst hrl
       rw [← hrw]
       have HST := Lib.hid hst
       have OR := hide oR
       have hH := ho.out.toH.belw hbr (Nat.le_refl _)
       have HH := hide hH
       clear hke hrw hst oR hrl hor ho hH
       go_wp2_with (at_builtin; refine wpList_append_row rfl (.tmp 26) (.tmp 28) rfl (v := u5) rfl ((unhide HH).belw ((Below.refl _ _).alloc (Nat.le_refl _) _) (by omega)) _ rfl ((Blk.new wr 24 #[.slice a4 row.length c4] rfl).cell 0) ((unhide OR).alloc _) hsz (by simp; omega) (by rw [HML.out]; omega) ?_; intro v6 w6 o6 g6 _)
       go_roundw
       case rel =>
        refine ⟨m + 1, by go_num, by omega, ?_, Below.stepS (hbw.alloc (by omega) _) g6 ((unhide HH).belw ((Below.refl _ _).alloc (Nat.le_refl _) _) (by omega)).own (Nat.le_refl _) (by simp; omega)⟩
        show OwnS _ _ _ _
        rw [HST.out]
        exact o6
       case measure => simp only [intOf]; omega
  · have hme : m = n := by omega
    have hoo := ho.out
    rw [hme] at hoo
    have HOO := hide hoo
    clear hme hoo ho
    go_wp2_with fail
    go_ret
    exact ⟨_, rfl, unhide HOO, hb⟩
end Go.Proofs.Ythalfobjeakfoaa
