/-
  Walks: tests of elements, PolynomialWord on both sides. Printed by gen_polyw.py.
-/
import Derived.Test.YtkbppgpegljcoaaVals
import Derived.Test.YtkbppgpegljcoaaFields
namespace Go.Proofs.Ytkbppgpegljcoaa
open Go.RowKit
attribute [local go_sem ↓] Go.wp_at_zero Go.wp_at_succ

def isElem (q x : Int) : Bool := inB x 0 (q - 1)
def notElem (q x : Int) : Bool := !isElem q x
/-- All numbers of a list are elements of a field of size q. -/
def elems (q : Int) (xs : List Int) : Bool := !xs.any (notElem q)
theorem elems_true {q : Int} {xs : List Int} : elems q xs = true ↔ ∀ x ∈ xs, 0 ≤ x ∧ x < q := by
  rw [elems, Bool.not_eq_true', List.any_eq_false]
  constructor
  · intro h x hx
    have := h x hx
    simp [notElem, isElem, inB] at this
    omega
  · intro h x hx
    have := h x hx
    simp [notElem, isElem, inB]
    omega
theorem areIn1_any (q : Int) (gq : Nat) (x : Int) (w : World) (h1 : 1 ≤ q) (h2 : q ≤ 64) (hq : w.cell? ⟨gq, 0, none⟩ = some (.int .i64 q)) :
    Calls Try.prog 128 #[.int .i64 x, .pointer (some ⟨gq, 0, none⟩)] w fun e w' => e = .returned (.bool (notElem q x)) ∧ w = w' := by
  have hw := within_any x 0 (q - 1) w
  unfold notElem isElem
  generalize inB x 0 (q - 1) = r at hw
  have HW := hide hw
  clear hw
  go_enter Try.func128, Try.ntmps128
  go_wp2_with fail
  refine (unhide HW).mono ?_
  rintro e w1 ⟨rfl, rfl⟩
  go_wp2
  go_ret
  exact ⟨rfl, rfl⟩

set_option maxHeartbeats 400000 in
theorem idx_areIn (q : Int) (gq : Nat) (hq1 : 1 ≤ q) (hq2 : q ≤ 64) (a : Option Addr) (c : Nat) (xs : List Int) (w : World) (hx : Rd w a xs) (hq : w.cell? ⟨gq, 0, none⟩ = some (.int .i64 q)) :
    Calls Try.prog 92 #[.slice a xs.length c, .func (.func 128) #[] #[.pointer (some ⟨gq, 0, none⟩)]] w fun e w' => e = .returned (.int .i64 (firstOf (notElem q) xs)) ∧ w = w' := by
  have hxl := hx.len
  have hq0 := hq
  go_enter Try.func92, Try.ntmps92
  go_wp2_with fail
  go_loop [8] (fun i => ∃ k : Nat, i = .int .i64 k ∧ k ≤ xs.length ∧ Hid (∀ j, j < k → (notElem q) (nth xs j) = false)) (fun i => xs.length - (intOf i).toNat)
  case atStart => exact ⟨0, rfl, Nat.zero_le _, fun j hj => by omega⟩
  case round =>
    obtain ⟨k, rfl, hk, hq⟩ := hrel
    by_cases hkl : k < xs.length
    · obtain ⟨b1, o1, rfl, _, hc⟩ := hx.at_ (by omega)
      have h1 := hc k hkl
      clear hc hx
      obtain ⟨r, hr⟩ : ∃ r, (notElem q) (nth xs k) = r := ⟨_, rfl⟩
      have HR := Lib.hid hr
      have hcl := areIn1_any q gq (nth xs k) w hq1 hq2 hq0
      rw [hr] at hcl
      have HC := hide hcl
      clear hr hcl
      go_wp2_with fail
      refine (unhide HC).mono ?_
      rintro e w1 ⟨rfl, rfl⟩
      cases r
      · go_wp2
        go_round
        case rel =>
          refine ⟨k + 1, by go_num, by omega, fun j hj => ?_⟩
          rcases Nat.lt_succ_iff_lt_or_eq.1 hj with h | rfl
          · exact hq.out j h
          · exact HR.out
        case measure => simp [intOf]; omega
      · go_wp2
        go_ret
        exact ⟨ret_int (firstOf_yes hkl HR.out hq.out).symm, rfl⟩
    · go_wp2
      go_ret
      exact ⟨ret_int (firstOf_no (fun j hj => hq.out j (by omega))).symm, rfl⟩

theorem has_areIn (q : Int) (gq : Nat) (hq1 : 1 ≤ q) (hq2 : q ≤ 64) (a : Option Addr) (c : Nat) (xs : List Int) (w : World) (hx : Rd w a xs) (hq : w.cell? ⟨gq, 0, none⟩ = some (.int .i64 q)) :
    Calls Try.prog 127 #[.slice a xs.length c, .func (.func 128) #[] #[.pointer (some ⟨gq, 0, none⟩)]] w fun e w' => e = .returned (.bool (xs.any (notElem q))) ∧ w = w' := by
  have hc := idx_areIn q gq hq1 hq2 a c xs w hx hq
  rw [any_firstOf]
  generalize hf : firstOf (notElem q) xs = r at hc
  have HF := Lib.hid hf
  have HC := hide hc
  clear hf hc
  by_cases h0 : 0 ≤ r
  · go_enter Try.func127, Try.ntmps127
    go_wp2_with fail
    refine (unhide HC).mono ?_
    rintro e w1 ⟨rfl, rfl⟩
    go_wp2
    go_ret
    exact ⟨ret_bool (by simp [h0]), rfl⟩
  · go_enter Try.func127, Try.ntmps127
    go_wp2_with fail
    refine (unhide HC).mono ?_
    rintro e w1 ⟨rfl, rfl⟩
    go_wp2
    go_ret
    exact ⟨ret_bool (by simp [show ¬ 0 ≤ r by omega]), rfl⟩

theorem areIn_any (q : Int) (a : Option Addr) (c : Nat) (xs : List Int) (w : World) (h1 : 1 ≤ q) (h2 : q ≤ 64) (hx : Rd w a xs) :
    Calls Try.prog 71 #[.int .i64 q, .slice a xs.length c] w fun e w' => e = .returned (.bool (elems q xs)) ∧ Below w.heap.size w w' := by
  obtain ⟨W0, hW0⟩ : ∃ W0, W0 = w.alloc (.cells #[.int .i64 q] 2) := ⟨_, rfl⟩
  have hbW : Below w.heap.size w W0 := by rw [hW0]; exact (Below.refl _ _).alloc (Nat.le_refl _) _
  have hc := has_areIn q w.heap.size h1 h2 a c xs W0 (hx.below hbW) (by rw [hW0]; exact (Blk.new w 2 #[.int .i64 q] rfl).cell 0)
  unfold elems
  generalize xs.any (notElem q) = r at hc
  have HC := hide hc
  have HW := Lib.hid hW0
  clear hc hW0
  go_enter Try.func71, Try.ntmps71
  go_wp2_with fail
  rw [← HW.out]
  refine (unhide HC).mono ?_
  rintro e w1 ⟨rfl, rfl⟩
  go_wp2
  go_ret
  exact ⟨rfl, hbW⟩

theorem elems_no {q : Int} {xs : List Int} {k : Nat} (hk : k < xs.length) (h : isElem q (nth xs k) = false) : elems q xs = false := by
  have : xs.any (notElem q) = true := List.any_eq_true.2 ⟨_, nth_mem hk, by simp [notElem, h]⟩
  simp [elems, this]
theorem elems_yes {q : Int} {xs : List Int} (h : ∀ j, j < xs.length → isElem q (nth xs j) = true) : elems q xs = true := by
  rw [elems_true]
  intro x hx
  obtain ⟨i, hi, rfl⟩ := List.getElem_of_mem hx
  have := h i hi
  rw [nth_lt hi, isElem, inB_true] at this
  omega
set_option maxHeartbeats 400000 in
theorem l19Elements_any (q : Int) (a : Option Addr) (c : Nat) (xs : List Int) (w : World) (h1 : 1 ≤ q) (h2 : q ≤ 64) (hx : Rd w a xs) :
    Calls Try.prog 66 #[.int .i64 q, .slice a xs.length c] w fun e w' => e = .returned (.bool (elems q xs)) ∧ w = w' := by
  have hxl := hx.len
  go_enter Try.func66, Try.ntmps66
  go_wp2
  go_loop [5] (fun i => ∃ k : Nat, i = .int .i64 k ∧ k ≤ xs.length ∧ Hid (∀ j, j < k → isElem q (nth xs j) = true)) (fun i => xs.length - (intOf i).toNat)
  case atStart => exact ⟨0, rfl, Nat.zero_le _, fun j hj => by omega⟩
  case round =>
    obtain ⟨k, rfl, hk, hq⟩ := hrel
    by_cases hkl : k < xs.length
    · obtain ⟨b1, o1, rfl, _, hc⟩ := hx.at_ (by omega)
      have h1 := hc k hkl
      clear hc hx
      have hcl := l00In_any (nth xs k) 0 (q - 1) w
      obtain ⟨r, hr⟩ : ∃ r, isElem q (nth xs k) = r := ⟨_, rfl⟩
      have HR := Lib.hid hr
      rw [isElem] at hr
      rw [hr] at hcl
      have HC := hide hcl
      clear hr hcl
      go_wp2_with fail
      refine (unhide HC).mono ?_
      rintro e w1 ⟨rfl, rfl⟩
      cases r
      · go_wp2
        go_ret
        exact ⟨ret_bool (elems_no hkl HR.out).symm, rfl⟩
      · go_wp2
        go_round
        case rel =>
          refine ⟨k + 1, by go_num, by omega, fun j hj => ?_⟩
          rcases Nat.lt_succ_iff_lt_or_eq.1 hj with h | rfl
          · exact hq.out j h
          · exact HR.out
        case measure => simp [intOf]; omega
    · go_wp2
      go_ret
      exact ⟨ret_bool (elems_yes (fun j hj => hq.out j (by omega))).symm, rfl⟩

/-- There are n elements to take values at. -/
def lenOk (q n : Int) : Bool := isField q && inB n 1 (min q 32)
theorem isWordLength_any (q n : Int) (w : World) (_h1 : 1 ≤ q) (_h2 : q ≤ 64) :
    Calls Try.prog 70 #[.int .i64 q, .int .i64 n] w fun e w' => e = .returned (.bool (inB n 1 (min q 32))) ∧ w = w' := by
  by_cases h : q ≤ 32
  · have hm : min q 32 = q := by omega
    have hw := within_any n 1 q w
    rw [hm]
    generalize inB n 1 q = r at hw
    have HW := hide hw
    clear hw hm
    go_enter Try.func70, Try.ntmps70
    go_wp2_with fail
    refine (unhide HW).mono ?_
    rintro e w1 ⟨rfl, rfl⟩
    go_wp2
    go_ret
    exact ⟨rfl, rfl⟩
  · have hm : min q 32 = 32 := by omega
    have hw := within_any n 1 32 w
    rw [hm]
    generalize inB n 1 32 = r at hw
    have HW := hide hw
    clear hw hm
    go_enter Try.func70, Try.ntmps70
    go_wp2_with fail
    refine (unhide HW).mono ?_
    rintro e w1 ⟨rfl, rfl⟩
    go_wp2
    go_ret
    exact ⟨rfl, rfl⟩
theorem l00Min_any (a b : Int) (w : World) : Calls Try.prog 121 #[.int .i64 a, .int .i64 b] w fun e w' => e = .returned (.int .i64 (min a b)) ∧ w = w' := by
  by_cases h : a < b
  · go_enter Try.func121, Try.ntmps121
    go_wp2
    go_ret
    exact ⟨ret_int (by omega), rfl⟩
  · go_enter Try.func121, Try.ntmps121
    go_wp2
    go_ret
    exact ⟨ret_int (by omega), rfl⟩
theorem l19Length_any (q n : Int) (w : World) : Calls Try.prog 65 #[.int .i64 q, .int .i64 n] w fun e w' => e = .returned (.bool (lenOk q n)) ∧ w = w' := by
  have hf := l19Field_any q w
  have hw := l00In_any n 1 (min q 32) w
  unfold lenOk
  obtain ⟨m, hm⟩ : ∃ m, m = min q 32 := ⟨_, rfl⟩
  have hmin := l00Min_any q 32 w
  rw [← hm] at hw hmin ⊢
  generalize inB n 1 m = r at hw
  generalize isField q = f at hf
  have HF := hide hf
  have HW := hide hw
  have HM := hide hmin
  clear hf hw hmin hm
  cases f
  · go_enter Try.func65, Try.ntmps65
    go_wp2_with fail
    refine (unhide HF).mono ?_
    rintro e w1 ⟨rfl, rfl⟩
    go_wp2
    go_ret
    exact ⟨rfl, rfl⟩
  · go_enter Try.func65, Try.ntmps65
    go_wp2_with fail
    refine (unhide HF).mono ?_
    rintro e w1 ⟨rfl, rfl⟩
    go_wp2_with fail
    refine (unhide HM).mono ?_
    rintro e w1 ⟨rfl, rfl⟩
    go_wp2_with fail
    refine (unhide HW).mono ?_
    rintro e w1 ⟨rfl, rfl⟩
    go_wp2
    go_ret
    exact ⟨by simp, rfl⟩

/-- PolynomialWord. -/
def pwRes (q : Int) (msg : List Int) (n : Int) : List Int × Int :=
  if lenOk q n then (if decide (0 < msg.length) && elems q msg then (vals (fdOf q) msg n.toNat, 0) else ([], 1)) else ([], 2)
theorem lenOk_true {q n : Int} (h : lenOk q n = true) : isField q = true ∧ 2 ≤ q ∧ q ≤ 64 ∧ 1 ≤ n ∧ n ≤ 32 := by
  rw [lenOk, Bool.and_eq_true, inB_true] at h
  obtain ⟨h2, h64, _⟩ := isField_size h.1
  exact ⟨h.1, h2, h64, by omega, by omega⟩

def ResL (w : World) (r : List Int × Int) (e : Ending) (w' : World) : Prop := ∃ v, e = .returned (.tuple #[v, .int .i64 r.2]) ∧ Own w' w.heap.size v r.1 ∧ Below w.heap.size w w'

set_option maxRecDepth 100000 in
set_option maxHeartbeats 800000 in
theorem specPW_any (q : Int) (b : Option Addr) (cb : Nat) (msg : List Int) (n : Int) (w : World) (hx : Rd w b msg) :
    Calls Try.prog 19 #[.int .i64 q, .slice b msg.length cb, .int .i64 n] w (ResL w (pwRes q msg n)) := by
  have hxl := hx.len
  have hL := l19Length_any q n w
  unfold pwRes
  by_cases hl : lenOk q n = true
  · obtain ⟨hf, h2, h64, hn1, hn2⟩ := lenOk_true hl
    rw [hl] at hL
    rw [if_pos hl]
    have HL := hide hL
    clear hL hl
    by_cases h0 : 0 < msg.length
    · have hE := l19Elements_any q b cb msg w (by omega) h64 hx
      have hne : ((msg.length : Int) == 0) = false := by rw [beq_eq_false_iff_ne]; omega
      by_cases he : elems q msg = true
      · have hel := elems_true.1 he
        rw [he] at hE
        rw [if_pos (by simp [h0, he])]
        obtain ⟨N, rfl⟩ := Int.eq_ofNat_of_zero_le (show 0 ≤ n by omega)
        rw [Int.toNat_natCast]
        have hmr : ∀ c ∈ msg, 0 ≤ c ∧ c ≤ 1000000 := fun c hc => by have := hel c hc; omega
        obtain ⟨ok, hq, _⟩ := fdOf_ok hf
        have hM := l03Make_any q w hf
        generalize fdOf q = F at hM ok hq ⊢
        have HE := hide hE
        have HM := hide hM
        have HMR := hide hmr
        have HQ := Lib.hid hq
        clear hE hM hmr hel he hq hf
        go_enter Try.func19, Try.ntmps19
        go_wp2_with fail
        refine (unhide HL).mono ?_
        rintro e w1 ⟨rfl, rfl⟩
        go_wp2_with fail
        refine (unhide HE).mono ?_
        rintro e w1 ⟨rfl, rfl⟩
        go_wp2_with fail
        refine (unhide HM).mono ?_
        rintro e w1 ⟨v1, rfl, o1, b1⟩
        obtain ⟨a1, c1, rfl, r1, _⟩ := o1.form
        obtain ⟨W1, hW1⟩ : ∃ W1, W1 = w1.alloc (.cells #[.int .i64 F.p, .int .i64 F.k, .slice a1 F.poly.length c1] 41) := ⟨_, rfl⟩
        have hbW : Below w1.heap.size w1 W1 := by rw [hW1]; exact (Below.refl _ _).alloc (Nat.le_refl _) _
        have hF : PF W1 w1.heap.size F := by rw [hW1]; exact PF.box r1
        have hb := Below.chain b1 hbW
        have HW := Lib.hid hW1
        clear hW1
        go_wp2_with fail
        rw [← HW.out]
        refine (l19Values_any w1.heap.size F b cb msg N W1 hF ok (hx.below hb) (by omega) (unhide HMR)).mono ?_
        rintro e w2 ⟨v2, rfl, o2, b2⟩
        go_wp2
        go_ret2
        exact ⟨_, rfl, o2.mono hb.size, hb.trans (b2.mono hb.size)⟩
      · have he' : elems q msg = false := by simpa using he
        rw [he'] at hE
        rw [if_neg (by simp [he'])]
        have HE := hide hE
        clear hE he he'
        go_enter Try.func19, Try.ntmps19
        go_wp2_with fail
        refine (unhide HL).mono ?_
        rintro e w1 ⟨rfl, rfl⟩
        go_wp2_with fail
        refine (unhide HE).mono ?_
        rintro e w1 ⟨rfl, rfl⟩
        go_wp2
        go_ret2
        exact ⟨_, rfl, Own.nil _ _, Below.refl _ _⟩
    · have hm0 : msg.length = 0 := by omega
      have hne : ((msg.length : Int) == 0) = true := by rw [beq_iff_eq]; omega
      rw [if_neg (by simp [hm0])]
      clear hm0
      go_enter Try.func19, Try.ntmps19
      go_wp2_with fail
      refine (unhide HL).mono ?_
      rintro e w1 ⟨rfl, rfl⟩
      go_wp2
      go_ret2
      exact ⟨_, rfl, Own.nil _ _, Below.refl _ _⟩
  · have hl' : lenOk q n = false := by simpa using hl
    rw [hl'] at hL
    rw [if_neg hl]
    have HL := hide hL
    clear hL hl hl'
    go_enter Try.func19, Try.ntmps19
    go_wp2_with fail
    refine (unhide HL).mono ?_
    rintro e w1 ⟨rfl, rfl⟩
    go_wp2
    go_ret2
    exact ⟨_, rfl, Own.nil _ _, Below.refl _ _⟩

set_option maxRecDepth 100000 in
set_option maxHeartbeats 800000 in
theorem implPW_any (q : Int) (b : Option Addr) (cb : Nat) (msg : List Int) (n : Int) (w : World) (hx : Rd w b msg) :
    Calls Try.prog 21 #[.int .i64 q, .slice b msg.length cb, .int .i64 n] w (ResL w (pwRes q msg n)) := by
  have hxl := hx.len
  unfold pwRes
  by_cases hf : isField q = true
  · obtain ⟨h2, h64, _⟩ := isField_size hf
    have hM := implMake_any q w hf
    obtain ⟨ok, hq, _⟩ := fdOf_ok hf
    have hW := fun W => isWordLength_any q n W (by omega) h64
    generalize fdOf q = F at hM ok hq ⊢
    have HM := hide hM
    have HQ := Lib.hid hq
    clear hM hq
    by_cases hn : inB n 1 (min q 32) = true
    · have hn2 := inB_true.1 hn
      rw [if_pos (by rw [lenOk, hf, hn]; rfl)]
      rw [hn] at hW
      have HW := hide hW
      obtain ⟨N, rfl⟩ := Int.eq_ofNat_of_zero_le (show 0 ≤ n by omega)
      have hN : N ≤ 32 := by omega
      clear hW hn hn2
      rw [Int.toNat_natCast]
      by_cases h0 : 0 < msg.length
      · have hne : ((msg.length : Int) == 0) = false := by rw [beq_eq_false_iff_ne]; omega
        have hE := fun W h => areIn_any q b cb msg W (by omega) h64 h
        by_cases he : elems q msg = true
        · have hel := elems_true.1 he
          rw [he] at hE
          rw [if_pos (by simp [h0, he])]
          have hmr : ∀ c ∈ msg, 0 ≤ c ∧ c ≤ 1000000 := fun c hc => by have := hel c hc; omega
          have HE := hide hE
          have HMR := hide hmr
          clear hE hmr hel he hf
          go_enter Try.func21, Try.ntmps21
          go_wp2_with fail
          refine (unhide HM).mono ?_
          rintro e w1 ⟨v1, rfl, o1, b1⟩
          obtain ⟨a1, c1, rfl, r1, _⟩ := o1.form
          obtain ⟨W1, hW1⟩ : ∃ W1, W1 = w1.alloc (.cells #[.int .i64 F.p, .int .i64 F.k, .slice a1 F.poly.length c1] 41) := ⟨_, rfl⟩
          have hbW : Below w1.heap.size w1 W1 := by rw [hW1]; exact (Below.refl _ _).alloc (Nat.le_refl _) _
          have kF : Blk W1 w1.heap.size 41 #[.int .i64 F.p, .int .i64 F.k, .slice a1 F.poly.length c1] := by rw [hW1]; exact Blk.new _ _ _ rfl
          have r1W := r1.below hbW
          have hb := Below.chain b1 hbW
          have hHW := Lib.hid hW1
          clear hW1
          go_wp2_with fail
          rw [← hHW.out]
          refine (unhide HW _).mono ?_
          rintro e w2 ⟨rfl, rfl⟩
          go_wp2_with fail
          refine (unhide HE _ (hx.below hb)).mono ?_
          rintro e w2 ⟨rfl, b2⟩
          have k2 := kF.below b2 kF.lt
          have f0 : w2.cell? ⟨w1.heap.size, 0, none⟩ = some (.int .i64 F.p) := k2.cell 0
          have f1 : w2.cell? ⟨w1.heap.size, 1, none⟩ = some (.int .i64 F.k) := k2.cell 1
          have f2 : w2.cell? ⟨w1.heap.size, 2, none⟩ = some (.slice a1 F.poly.length c1) := k2.cell 2
          have hb2 := Below.chain hb b2
          go_wp2_with fail
          refine (polynomialWord_any F a1 c1 b cb msg N w2 (r1W.below b2) ok (hx.below hb2) (by omega) h0 (unhide HMR)).mono ?_
          rintro e w3 ⟨v3, rfl, o3, b3⟩
          go_wp2
          go_ret2
          exact ⟨_, rfl, o3.mono hb2.size, hb2.trans (b3.mono hb2.size)⟩
        · have he' : elems q msg = false := by simpa using he
          rw [he'] at hE
          rw [if_neg (by simp [he'])]
          have HE := hide hE
          clear hE he he' hf
          go_enter Try.func21, Try.ntmps21
          go_wp2_with fail
          refine (unhide HM).mono ?_
          rintro e w1 ⟨v1, rfl, o1, b1⟩
          obtain ⟨a1, c1, rfl, r1, _⟩ := o1.form
          obtain ⟨W1, hW1⟩ : ∃ W1, W1 = w1.alloc (.cells #[.int .i64 F.p, .int .i64 F.k, .slice a1 F.poly.length c1] 41) := ⟨_, rfl⟩
          have hbW : Below w1.heap.size w1 W1 := by rw [hW1]; exact (Below.refl _ _).alloc (Nat.le_refl _) _
          have kF : Blk W1 w1.heap.size 41 #[.int .i64 F.p, .int .i64 F.k, .slice a1 F.poly.length c1] := by rw [hW1]; exact Blk.new _ _ _ rfl
          have r1W := r1.below hbW
          have hb := Below.chain b1 hbW
          have hHW := Lib.hid hW1
          clear hW1
          go_wp2_with fail
          rw [← hHW.out]
          refine (unhide HW _).mono ?_
          rintro e w2 ⟨rfl, rfl⟩
          go_wp2_with fail
          refine (unhide HE _ (hx.below hb)).mono ?_
          rintro e w2 ⟨rfl, b2⟩
          have hb2 := Below.chain hb b2
          go_wp2
          go_ret2
          exact ⟨_, rfl, Own.nil _ _, hb2⟩
      · have hm0 : msg.length = 0 := by omega
        have hne : ((msg.length : Int) == 0) = true := by rw [beq_iff_eq]; omega
        rw [if_neg (by simp [hm0])]
        clear hm0 hf
        go_enter Try.func21, Try.ntmps21
        go_wp2_with fail
        refine (unhide HM).mono ?_
        rintro e w1 ⟨v1, rfl, o1, b1⟩
        obtain ⟨a1, c1, rfl, r1, _⟩ := o1.form
        obtain ⟨W1, hW1⟩ : ∃ W1, W1 = w1.alloc (.cells #[.int .i64 F.p, .int .i64 F.k, .slice a1 F.poly.length c1] 41) := ⟨_, rfl⟩
        have hbW : Below w1.heap.size w1 W1 := by rw [hW1]; exact (Below.refl _ _).alloc (Nat.le_refl _) _
        have kF : Blk W1 w1.heap.size 41 #[.int .i64 F.p, .int .i64 F.k, .slice a1 F.poly.length c1] := by rw [hW1]; exact Blk.new _ _ _ rfl
        have r1W := r1.below hbW
        have hb := Below.chain b1 hbW
        have hHW := Lib.hid hW1
        clear hW1
        go_wp2_with fail
        rw [← hHW.out]
        refine (unhide HW _).mono ?_
        rintro e w2 ⟨rfl, rfl⟩
        go_wp2
        go_ret2
        exact ⟨_, rfl, Own.nil _ _, hb⟩
    · have hn' : inB n 1 (min q 32) = false := by simpa using hn
      rw [if_neg (by rw [lenOk, hn']; simp)]
      rw [hn'] at hW
      have HW := hide hW
      clear hW hn hn' hf
      go_enter Try.func21, Try.ntmps21
      go_wp2_with fail
      refine (unhide HM).mono ?_
      rintro e w1 ⟨v1, rfl, o1, b1⟩
      obtain ⟨a1, c1, rfl, r1, _⟩ := o1.form
      obtain ⟨W1, hW1⟩ : ∃ W1, W1 = w1.alloc (.cells #[.int .i64 F.p, .int .i64 F.k, .slice a1 F.poly.length c1] 41) := ⟨_, rfl⟩
      have hbW : Below w1.heap.size w1 W1 := by rw [hW1]; exact (Below.refl _ _).alloc (Nat.le_refl _) _
      have kF : Blk W1 w1.heap.size 41 #[.int .i64 F.p, .int .i64 F.k, .slice a1 F.poly.length c1] := by rw [hW1]; exact Blk.new _ _ _ rfl
      have r1W := r1.below hbW
      have hb := Below.chain b1 hbW
      have hHW := Lib.hid hW1
      clear hW1
      go_wp2_with fail
      rw [← hHW.out]
      refine (unhide HW _).mono ?_
      rintro e w2 ⟨rfl, rfl⟩
      go_wp2
      go_ret2
      exact ⟨_, rfl, Own.nil _ _, hb⟩
  · have hf' : isField q = false := by simpa using hf
    have hM := MakeField_no q w hf'
    rw [if_neg (by rw [lenOk, hf']; simp)]
    have HM := hide hM
    clear hM hf hf'
    go_enter Try.func21, Try.ntmps21
    go_wp2_with fail
    refine (unhide HM).mono ?_
    rintro e w1 ⟨v1, rfl, o1, b1⟩
    obtain ⟨a1, c1, rfl, r1, _⟩ := o1.form
    go_wp2
    go_ret2
    exact ⟨_, rfl, Own.nil _ _, Below.chain b1 ((Below.refl _ _).alloc (Nat.le_refl _) _)⟩
end Go.Proofs.Ytkbppgpegljcoaa
