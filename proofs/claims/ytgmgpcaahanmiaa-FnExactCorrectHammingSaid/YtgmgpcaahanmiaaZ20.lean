/-
  Plain mathematics: when a prime, a degree and a list are a field.
-/
import Derived.BigQuiet
import Derived.Deep.DeepCutAuto
import Derived.Deep.DeepMust
import Derived.Deep.DrawnRows
import Derived.Deep.Draws
import Derived.Deep.OwnRows
import Derived.Deep.QuietTactic
import Derived.Deep.RegionHeld3
import Derived.Laws.Rows
import Derived.Lib.Hide
import Derived.Maps.AppendAt
import Derived.StillTailTactics
import Derived.Test.YtgmgpcaahanmiaaProg
import Derived.WalkKit
import Derived.WalkLawsBesides
import Derived.WalkSpells
import Derived.Test.YtgmgpcaahanmiaaZ5
import Derived.Test.YtgmgpcaahanmiaaZ7
set_option linter.unusedVariables false
set_option linter.unusedSimpArgs false
namespace Go.Proofs.Ytgmgpcaahanmiaa
open Go.RowKit

def okF (p d : Int) (xs : List Int) : Bool :=
  inB p 2 64 && (inB d 1 6 && ((xs.length : Int) == d + 1 && (nth xs d.toNat == 1 && ((split (p ^ d.toNat)).1 == p && (xs.all (fun x => inB x 0 (p - 1)) && irr xs p)))))
def ppTab (p d : Nat) : Bool := (split ((p : Int) ^ d) == ((p : Int), (d : Int))) == ((facs p).length == 1 && decide ((p : Int) ^ d ≤ 64)) && ((split ((p : Int) ^ d)).1 == (p : Int)) == ((facs p).length == 1 && decide ((p : Int) ^ d ≤ 64))
theorem ppTab_ok : ∀ p : Nat, p < 65 → 2 ≤ p → ∀ d : Nat, d < 7 → 1 ≤ d → ppTab p d = true := by decide +kernel
theorem pp_iff {p d : Nat} (h1 : 2 ≤ p) (h2 : p ≤ 64) (h3 : 1 ≤ d) (h4 : d ≤ 6) :
    ((split ((p : Int) ^ d)).1 = (p : Int) ↔ ((facs p).length = 1 ∧ (p : Int) ^ d ≤ 64)) ∧ ((split ((p : Int) ^ d)).1 = (p : Int) → split ((p : Int) ^ d) = ((p : Int), (d : Int))) := by
  have t := ppTab_ok p (by omega) h1 d (by omega) h3
  rw [ppTab, Bool.and_eq_true, beq_iff_eq, beq_iff_eq] at t
  obtain ⟨t1, t2⟩ := t
  have e1 : (split ((p : Int) ^ d)).1 = (p : Int) ↔ ((facs p).length = 1 ∧ (p : Int) ^ d ≤ 64) := by
    rw [← beq_iff_eq (a := (split ((p : Int) ^ d)).1), t2, Bool.and_eq_true, beq_iff_eq, decide_eq_true_eq]
  refine ⟨e1, fun h => ?_⟩
  rw [← beq_iff_eq (a := split ((p : Int) ^ d)), t1, Bool.and_eq_true, beq_iff_eq, decide_eq_true_eq]
  exact e1.1 h
/-- What the checks say. -/
theorem okF_good {p d : Int} {xs : List Int} (h : okF p d xs = true) : ∃ F : FD, F.Good ∧ p = F.p ∧ d = (F.k : Int) ∧ xs = F.poly := by
  simp only [okF, Bool.and_eq_true, inB_true, beq_iff_eq, List.all_eq_true] at h
  obtain ⟨⟨a1, a2⟩, ⟨b1, b2⟩, c, e, f, g, i⟩ := h
  obtain ⟨P, rfl⟩ := Int.eq_ofNat_of_zero_le (show 0 ≤ p by omega)
  obtain ⟨K, rfl⟩ := Int.eq_ofNat_of_zero_le (show 0 ≤ d by omega)
  rw [Int.toNat_natCast] at e f
  obtain ⟨t1, t2⟩ := pp_iff (p := P) (d := K) (by omega) (by omega) (by omega) (by omega)
  refine ⟨⟨P, K, xs⟩, ⟨⟨a1, a2, by show 1 ≤ K; omega, by show K ≤ 6; omega, (t1.1 f).2, by show xs.length = K + 1; omega, fun x hx => ?_, e, i⟩, t2 f⟩, rfl, rfl, rfl⟩
  have := g x hx
  exact ⟨this.1, by show x < (P : Int); omega⟩
theorem okF_prime {p d : Int} (h1 : 2 ≤ p) (h2 : p ≤ 64) (h3 : 1 ≤ d) (h4 : d ≤ 6) : (split (p ^ d.toNat)).1 = p ↔ ((facs p).length = 1 ∧ capTo p 64 d.toNat ≤ 64) := by
  obtain ⟨P, rfl⟩ := Int.eq_ofNat_of_zero_le (show 0 ≤ p by omega)
  obtain ⟨K, rfl⟩ := Int.eq_ofNat_of_zero_le (show 0 ≤ d by omega)
  rw [Int.toNat_natCast, (pp_iff (p := P) (d := K) (by omega) (by omega) (by omega) (by omega)).1]
  constructor
  · rintro ⟨a, b⟩
    exact ⟨a, by rw [capTo_pow (by omega) _ b]; exact b⟩
  · rintro ⟨a, b⟩
    refine ⟨a, ?_⟩
    rcases Int.lt_or_le 64 ((P : Int) ^ K) with h | h
    · exfalso
      have : ∀ k, capTo P 64 k ≤ 64 → capTo P 64 k = (P : Int) ^ k := by
        intro k
        induction k with
        | zero => intro _; simp [capTo]
        | succ k ih =>
          intro hk
          by_cases hc : capTo P 64 k ≤ 64
          · rw [capTo_go hc, ih hc, Int.pow_succ]
          · rw [capTo_stop hc (k + 1) (by omega)] at hk; exact absurd hk hc
      rw [this K b] at b
      omega
    · exact h
/-- Where a power of p stays small, p and the exponent are small. -/
theorem cap_small {p : Int} {d : Nat} (h1 : 2 ≤ p) (h3 : 1 ≤ d) (h : capTo p 64 d ≤ 64) : p ≤ 64 ∧ d ≤ 6 := by
  have e1 : capTo p 64 1 = p := by rw [capTo_go (show capTo p 64 0 ≤ 64 by simp [capTo])]; simp [capTo]
  constructor
  · rcases Int.lt_or_le 64 p with hp | hp
    · rw [capTo_stop (k := 1) (by rw [e1]; omega) d h3, e1] at h; omega
    · exact hp
  · rcases Nat.lt_or_ge 6 d with hd | hd
    · exfalso
      have e : ∀ k, (2 : Int) ^ k ≤ capTo p 64 k ∨ 64 < capTo p 64 k := by
        intro k
        induction k with
        | zero => left; simp [capTo]
        | succ k ih =>
          by_cases hc : capTo p 64 k ≤ 64
          · left
            rw [capTo_go hc, Int.pow_succ]
            rcases ih with ih | ih
            · exact Int.mul_le_mul ih h1 (by omega) (by have := capTo_pos (b := p) (l := 64) (by omega) k; omega)
            · omega
          · right; rw [capTo_stop hc (k + 1) (by omega)]; omega
      have h7 : capTo p 64 7 ≤ 64 := by
        rcases Int.lt_or_le 64 (capTo p 64 7) with hh | hh
        · rw [capTo_stop (k := 7) (by omega) d (by omega)] at h; omega
        · exact hh
      rcases e 7 with e7 | e7
      · have : (2 : Int) ^ 7 = 128 := by decide
        omega
      · omega
    · exact hd
/-- The checks as the program has them. -/
def okI (p d : Int) (xs : List Int) : Bool :=
  ((facs p).length == 1) && (decide (1 ≤ d) && (decide (capTo p 64 d.toNat ≤ 64) && ((xs.length : Int) == d + 1 && (nth xs d.toNat == 1 && (xs.all (fun x => inB x 0 (p - 1)) && irr xs p)))))
theorem facs_prime {p : Int} (h : (facs p).length = 1) : 2 ≤ p ∧ p ≤ 1000000 := by
  unfold facs at h
  by_cases hb : inB p 1 1000000 = true
  · obtain ⟨h1, h2⟩ := inB_true.1 hb
    rw [if_pos hb] at h
    refine ⟨?_, h2⟩
    rcases Int.lt_or_le 1 p with h3 | h3
    · omega
    · obtain rfl : p = 1 := by omega
      exact absurd h (by decide)
  · rw [if_neg hb] at h
    simp at h
theorem okI_eq (p d : Int) (xs : List Int) : okI p d xs = okF p d xs := by
  unfold okI okF
  by_cases h1 : (facs p).length = 1 ∧ 1 ≤ d ∧ capTo p 64 d.toNat ≤ 64
  · obtain ⟨a, b, c⟩ := h1
    obtain ⟨p2, _⟩ := facs_prime a
    obtain ⟨p64, d6⟩ := cap_small p2 (by omega) c
    have e := (okF_prime p2 p64 b (by omega)).2 ⟨a, c⟩
    rw [inB_yes p2 p64, inB_yes b (by omega), e]
    simp [a, b, c]
  · have l : (((facs p).length == 1) && (decide (1 ≤ d) && (decide (capTo p 64 d.toNat ≤ 64) && ((xs.length : Int) == d + 1 && (nth xs d.toNat == 1 && (xs.all (fun x => inB x 0 (p - 1)) && irr xs p)))))) = false := by
      rw [Bool.eq_false_iff]
      intro hh
      simp only [Bool.and_eq_true, beq_iff_eq, decide_eq_true_eq] at hh
      exact h1 ⟨hh.1, hh.2.1, hh.2.2.1⟩
    rw [l, eq_comm, Bool.eq_false_iff]
    intro hh
    simp only [Bool.and_eq_true, beq_iff_eq, inB_true] at hh
    obtain ⟨⟨p2, p64⟩, ⟨d1, d6⟩, _, _, e, _⟩ := hh
    obtain ⟨a, c⟩ := (okF_prime p2 p64 d1 d6).1 e
    exact h1 ⟨a, d1, c⟩
end Go.Proofs.Ytgmgpcaahanmiaa

/-
  Walks: slices.IndexFunc and ContainsFunc, at any function that keeps what was there. Printed by gen_idxg.py.
-/
namespace Go.Proofs.Ytgmgpcaahanmiaa
open Go.RowKit

theorem anyL_firstOfL {p : List Int → Bool} {xss : List (List Int)} : xss.any p = decide (0 ≤ firstOfL p xss) := by
  cases h : xss.findIdx? p with
  | none =>
    rw [firstOfL, h, List.any_eq_false.2 fun x hx => by rw [List.findIdx?_eq_none_iff.1 h x hx]; simp]
    rfl
  | some i =>
    have h0 := h
    rw [List.findIdx?_eq_some_iff_getElem] at h
    obtain ⟨hi, hp, _⟩ := h
    rw [firstOfL, h0, List.any_eq_true.2 ⟨_, List.getElem_mem hi, hp⟩]
    simp
set_option maxRecDepth 100000 in
set_option maxHeartbeats 800000 in
theorem idxI0 (fn : Nat) (p : Int → Bool) (a : Option Addr) (cp : Nat) (xs : List Int) (w : World) (hent : ∀ (args : Array Value) (w : World), (callFunc fn args).run Try.prog w = .ok (.enter fn args) w) (hx : Rd w a xs) (hf : ∀ (k : Nat) (W : World), k < xs.length → Below w.heap.size w W → Calls Try.prog fn #[.int .i64 (nth xs k)] W fun e W' => e = .returned (.bool (p (nth xs k))) ∧ Below W.heap.size W W') :
    Calls Try.prog 92 #[.slice a xs.length cp, .func (.func fn) #[] #[]] w fun e w' => e = .returned (.int .i64 (firstOf p xs)) ∧ Below w.heap.size w w' := by
  have hxl := hx.len
  have HF := hide hf
  clear hf
  go_enter Try.func92, Try.ntmps92
  go_wp2_with fail
  go_loopw [8] (fun i wr => ∃ k : Nat, i = .int .i64 k ∧ k ≤ xs.length ∧ Hid (∀ j, j < k → p (nth xs j) = false) ∧ Below w.heap.size w wr) (fun i _ => xs.length - (intOf i).toNat)
  case atStart => exact ⟨0, rfl, Nat.zero_le _, fun j hj => by omega, Below.refl _ _⟩
  case round =>
    obtain ⟨k, rfl, hk, hq, hb⟩ := hrel
    have hsz := hb.size
    by_cases hkl : k < xs.length
    · obtain ⟨b1, o1, rfl, _, hc⟩ := (hx.below hb).at_ (by omega)
      have h1 := hc k hkl
      have hcl := unhide HF k wr hkl hb
      obtain ⟨r, hr⟩ : ∃ r, p (nth xs k) = r := ⟨_, rfl⟩
      have HR := Lib.hid hr
      rw [hr] at hcl
      generalize nth xs k = y at h1 hcl
      have HC := hide hcl
      clear hr hcl hc
      go_wp2_with fail
      refine (unhide HC).mono ?_
      rintro e w1 ⟨rfl, b1⟩
      have hb1 := hb.trans (b1.mono hsz)
      cases r
      · go_wp2
        go_roundw
        case rel =>
          refine ⟨k + 1, by go_num, by omega, fun j hj => ?_, hb1⟩
          rcases Nat.lt_succ_iff_lt_or_eq.1 hj with h | rfl
          · exact hq.out j h
          · exact HR.out
        case measure => simp [intOf]; omega
      · go_wp2
        go_ret
        exact ⟨ret_int (firstOf_yes hkl HR.out hq.out).symm, hb1⟩
    · go_wp2
      go_ret
      exact ⟨ret_int (firstOf_no (fun j hj => hq.out j (by omega))).symm, hb⟩
theorem hasI0 (fn : Nat) (p : Int → Bool) (a : Option Addr) (cp : Nat) (xs : List Int) (w : World) (hent : ∀ (args : Array Value) (w : World), (callFunc fn args).run Try.prog w = .ok (.enter fn args) w) (hx : Rd w a xs) (hf : ∀ (k : Nat) (W : World), k < xs.length → Below w.heap.size w W → Calls Try.prog fn #[.int .i64 (nth xs k)] W fun e W' => e = .returned (.bool (p (nth xs k))) ∧ Below W.heap.size W W') :
    Calls Try.prog 171 #[.slice a xs.length cp, .func (.func fn) #[] #[]] w fun e w' => e = .returned (.bool (xs.any p)) ∧ Below w.heap.size w w' := by
  have hc := idxI0 fn p a cp xs w hent hx hf
  clear hent
  rw [any_firstOf]
  generalize hf : firstOf p xs = r at hc
  have HF := Lib.hid hf
  have HC := hide hc
  clear hf hc
  by_cases h0 : 0 ≤ r
  · go_enter Try.func171, Try.ntmps171
    go_wp2_with fail
    refine (unhide HC).mono ?_
    rintro e w1 ⟨rfl, b1⟩
    go_wp2
    go_ret
    exact ⟨ret_bool (by simp [h0]), b1⟩
  · go_enter Try.func171, Try.ntmps171
    go_wp2_with fail
    refine (unhide HC).mono ?_
    rintro e w1 ⟨rfl, b1⟩
    go_wp2
    go_ret
    exact ⟨ret_bool (by simp [show ¬ 0 ≤ r by omega]), b1⟩
set_option maxRecDepth 100000 in
set_option maxHeartbeats 800000 in
theorem idxI1 (fn : Nat) (p : Int → Bool) (q0 : Nat) (a : Option Addr) (cp : Nat) (xs : List Int) (w : World) (hent : ∀ (args : Array Value) (w : World), (callFunc fn args).run Try.prog w = .ok (.enter fn args) w) (hx : Rd w a xs) (hf : ∀ (k : Nat) (W : World), k < xs.length → Below w.heap.size w W → Calls Try.prog fn #[.int .i64 (nth xs k), .pointer (some ⟨q0, 0, none⟩)] W fun e W' => e = .returned (.bool (p (nth xs k))) ∧ Below W.heap.size W W') :
    Calls Try.prog 92 #[.slice a xs.length cp, .func (.func fn) #[] #[.pointer (some ⟨q0, 0, none⟩)]] w fun e w' => e = .returned (.int .i64 (firstOf p xs)) ∧ Below w.heap.size w w' := by
  have hxl := hx.len
  have HF := hide hf
  clear hf
  go_enter Try.func92, Try.ntmps92
  go_wp2_with fail
  go_loopw [8] (fun i wr => ∃ k : Nat, i = .int .i64 k ∧ k ≤ xs.length ∧ Hid (∀ j, j < k → p (nth xs j) = false) ∧ Below w.heap.size w wr) (fun i _ => xs.length - (intOf i).toNat)
  case atStart => exact ⟨0, rfl, Nat.zero_le _, fun j hj => by omega, Below.refl _ _⟩
  case round =>
    obtain ⟨k, rfl, hk, hq, hb⟩ := hrel
    have hsz := hb.size
    by_cases hkl : k < xs.length
    · obtain ⟨b1, o1, rfl, _, hc⟩ := (hx.below hb).at_ (by omega)
      have h1 := hc k hkl
      have hcl := unhide HF k wr hkl hb
      obtain ⟨r, hr⟩ : ∃ r, p (nth xs k) = r := ⟨_, rfl⟩
      have HR := Lib.hid hr
      rw [hr] at hcl
      generalize nth xs k = y at h1 hcl
      have HC := hide hcl
      clear hr hcl hc
      go_wp2_with fail
      refine (unhide HC).mono ?_
      rintro e w1 ⟨rfl, b1⟩
      have hb1 := hb.trans (b1.mono hsz)
      cases r
      · go_wp2
        go_roundw
        case rel =>
          refine ⟨k + 1, by go_num, by omega, fun j hj => ?_, hb1⟩
          rcases Nat.lt_succ_iff_lt_or_eq.1 hj with h | rfl
          · exact hq.out j h
          · exact HR.out
        case measure => simp [intOf]; omega
      · go_wp2
        go_ret
        exact ⟨ret_int (firstOf_yes hkl HR.out hq.out).symm, hb1⟩
    · go_wp2
      go_ret
      exact ⟨ret_int (firstOf_no (fun j hj => hq.out j (by omega))).symm, hb⟩
theorem hasI1 (fn : Nat) (p : Int → Bool) (q0 : Nat) (a : Option Addr) (cp : Nat) (xs : List Int) (w : World) (hent : ∀ (args : Array Value) (w : World), (callFunc fn args).run Try.prog w = .ok (.enter fn args) w) (hx : Rd w a xs) (hf : ∀ (k : Nat) (W : World), k < xs.length → Below w.heap.size w W → Calls Try.prog fn #[.int .i64 (nth xs k), .pointer (some ⟨q0, 0, none⟩)] W fun e W' => e = .returned (.bool (p (nth xs k))) ∧ Below W.heap.size W W') :
    Calls Try.prog 171 #[.slice a xs.length cp, .func (.func fn) #[] #[.pointer (some ⟨q0, 0, none⟩)]] w fun e w' => e = .returned (.bool (xs.any p)) ∧ Below w.heap.size w w' := by
  have hc := idxI1 fn p q0 a cp xs w hent hx hf
  clear hent
  rw [any_firstOf]
  generalize hf : firstOf p xs = r at hc
  have HF := Lib.hid hf
  have HC := hide hc
  clear hf hc
  by_cases h0 : 0 ≤ r
  · go_enter Try.func171, Try.ntmps171
    go_wp2_with fail
    refine (unhide HC).mono ?_
    rintro e w1 ⟨rfl, b1⟩
    go_wp2
    go_ret
    exact ⟨ret_bool (by simp [h0]), b1⟩
  · go_enter Try.func171, Try.ntmps171
    go_wp2_with fail
    refine (unhide HC).mono ?_
    rintro e w1 ⟨rfl, b1⟩
    go_wp2
    go_ret
    exact ⟨ret_bool (by simp [show ¬ 0 ≤ r by omega]), b1⟩
set_option maxRecDepth 100000 in
set_option maxHeartbeats 800000 in
theorem idxI2 (fn : Nat) (p : Int → Bool) (q0 q1 : Nat) (a : Option Addr) (cp : Nat) (xs : List Int) (w : World) (hent : ∀ (args : Array Value) (w : World), (callFunc fn args).run Try.prog w = .ok (.enter fn args) w) (hx : Rd w a xs) (hf : ∀ (k : Nat) (W : World), k < xs.length → Below w.heap.size w W → Calls Try.prog fn #[.int .i64 (nth xs k), .pointer (some ⟨q0, 0, none⟩), .pointer (some ⟨q1, 0, none⟩)] W fun e W' => e = .returned (.bool (p (nth xs k))) ∧ Below W.heap.size W W') :
    Calls Try.prog 92 #[.slice a xs.length cp, .func (.func fn) #[] #[.pointer (some ⟨q0, 0, none⟩), .pointer (some ⟨q1, 0, none⟩)]] w fun e w' => e = .returned (.int .i64 (firstOf p xs)) ∧ Below w.heap.size w w' := by
  have hxl := hx.len
  have HF := hide hf
  clear hf
  go_enter Try.func92, Try.ntmps92
  go_wp2_with fail
  go_loopw [8] (fun i wr => ∃ k : Nat, i = .int .i64 k ∧ k ≤ xs.length ∧ Hid (∀ j, j < k → p (nth xs j) = false) ∧ Below w.heap.size w wr) (fun i _ => xs.length - (intOf i).toNat)
  case atStart => exact ⟨0, rfl, Nat.zero_le _, fun j hj => by omega, Below.refl _ _⟩
  case round =>
    obtain ⟨k, rfl, hk, hq, hb⟩ := hrel
    have hsz := hb.size
    by_cases hkl : k < xs.length
    · obtain ⟨b1, o1, rfl, _, hc⟩ := (hx.below hb).at_ (by omega)
      have h1 := hc k hkl
      have hcl := unhide HF k wr hkl hb
      obtain ⟨r, hr⟩ : ∃ r, p (nth xs k) = r := ⟨_, rfl⟩
      have HR := Lib.hid hr
      rw [hr] at hcl
      generalize nth xs k = y at h1 hcl
      have HC := hide hcl
      clear hr hcl hc
      go_wp2_with fail
      refine (unhide HC).mono ?_
      rintro e w1 ⟨rfl, b1⟩
      have hb1 := hb.trans (b1.mono hsz)
      cases r
      · go_wp2
        go_roundw
        case rel =>
          refine ⟨k + 1, by go_num, by omega, fun j hj => ?_, hb1⟩
          rcases Nat.lt_succ_iff_lt_or_eq.1 hj with h | rfl
          · exact hq.out j h
          · exact HR.out
        case measure => simp [intOf]; omega
      · go_wp2
        go_ret
        exact ⟨ret_int (firstOf_yes hkl HR.out hq.out).symm, hb1⟩
    · go_wp2
      go_ret
      exact ⟨ret_int (firstOf_no (fun j hj => hq.out j (by omega))).symm, hb⟩
theorem hasI2 (fn : Nat) (p : Int → Bool) (q0 q1 : Nat) (a : Option Addr) (cp : Nat) (xs : List Int) (w : World) (hent : ∀ (args : Array Value) (w : World), (callFunc fn args).run Try.prog w = .ok (.enter fn args) w) (hx : Rd w a xs) (hf : ∀ (k : Nat) (W : World), k < xs.length → Below w.heap.size w W → Calls Try.prog fn #[.int .i64 (nth xs k), .pointer (some ⟨q0, 0, none⟩), .pointer (some ⟨q1, 0, none⟩)] W fun e W' => e = .returned (.bool (p (nth xs k))) ∧ Below W.heap.size W W') :
    Calls Try.prog 171 #[.slice a xs.length cp, .func (.func fn) #[] #[.pointer (some ⟨q0, 0, none⟩), .pointer (some ⟨q1, 0, none⟩)]] w fun e w' => e = .returned (.bool (xs.any p)) ∧ Below w.heap.size w w' := by
  have hc := idxI2 fn p q0 q1 a cp xs w hent hx hf
  clear hent
  rw [any_firstOf]
  generalize hf : firstOf p xs = r at hc
  have HF := Lib.hid hf
  have HC := hide hc
  clear hf hc
  by_cases h0 : 0 ≤ r
  · go_enter Try.func171, Try.ntmps171
    go_wp2_with fail
    refine (unhide HC).mono ?_
    rintro e w1 ⟨rfl, b1⟩
    go_wp2
    go_ret
    exact ⟨ret_bool (by simp [h0]), b1⟩
  · go_enter Try.func171, Try.ntmps171
    go_wp2_with fail
    refine (unhide HC).mono ?_
    rintro e w1 ⟨rfl, b1⟩
    go_wp2
    go_ret
    exact ⟨ret_bool (by simp [show ¬ 0 ≤ r by omega]), b1⟩
set_option maxRecDepth 100000 in
set_option maxHeartbeats 800000 in
theorem idxL0 (fn : Nat) (p : List Int → Bool) (a : Option Addr) (cp : Nat) (xss : List (List Int)) (w : World) (hent : ∀ (args : Array Value) (w : World), (callFunc fn args).run Try.prog w = .ok (.enter fn args) w) (hx : RdS w a xss) (hf : ∀ (k : Nat) (ai : Option Addr) (ci : Nat) (W : World), k < xss.length → Rd W ai (nthL xss k) → Below w.heap.size w W → Calls Try.prog fn #[.slice ai (nthL xss k).length ci] W fun e W' => e = .returned (.bool (p (nthL xss k))) ∧ Below W.heap.size W W') :
    Calls Try.prog 139 #[.slice a xss.length cp, .func (.func fn) #[] #[]] w fun e w' => e = .returned (.int .i64 (firstOfL p xss)) ∧ Below w.heap.size w w' := by
  have hxl := hx.len
  have HF := hide hf
  clear hf
  go_enter Try.func139, Try.ntmps139
  go_wp2_with fail
  go_loopw [8] (fun i wr => ∃ k : Nat, i = .int .i64 k ∧ k ≤ xss.length ∧ Hid (∀ j, j < k → p (nthL xss j) = false) ∧ Below w.heap.size w wr) (fun i _ => xss.length - (intOf i).toNat)
  case atStart => exact ⟨0, rfl, Nat.zero_le _, fun j hj => by omega, Below.refl _ _⟩
  case round =>
    obtain ⟨k, rfl, hk, hq, hb⟩ := hrel
    have hsz := hb.size
    by_cases hkl : k < xss.length
    · obtain ⟨b1, o1, rfl, _, hc⟩ := (hx.below hb).at_ (by omega)
      obtain ⟨ai, ci, h1, hr1⟩ := hc k hkl
      have hcl := unhide HF k ai ci wr hkl hr1 hb
      obtain ⟨r, hr⟩ : ∃ r, p (nthL xss k) = r := ⟨_, rfl⟩
      have HR := Lib.hid hr
      rw [hr] at hcl
      generalize nthL xss k = row at h1 hcl hr1
      have HC := hide hcl
      clear hr hcl hc hr1
      go_wp2_with fail
      refine (unhide HC).mono ?_
      rintro e w1 ⟨rfl, b1⟩
      have hb1 := hb.trans (b1.mono hsz)
      cases r
      · go_wp2
        go_roundw
        case rel =>
          refine ⟨k + 1, by go_num, by omega, fun j hj => ?_, hb1⟩
          rcases Nat.lt_succ_iff_lt_or_eq.1 hj with h | rfl
          · exact hq.out j h
          · exact HR.out
        case measure => simp [intOf]; omega
      · go_wp2
        go_ret
        exact ⟨ret_int (firstOfL_yes hkl HR.out hq.out).symm, hb1⟩
    · go_wp2
      go_ret
      exact ⟨ret_int (firstOfL_no (fun j hj => hq.out j (by omega))).symm, hb⟩
theorem hasL0 (fn : Nat) (p : List Int → Bool) (a : Option Addr) (cp : Nat) (xss : List (List Int)) (w : World) (hent : ∀ (args : Array Value) (w : World), (callFunc fn args).run Try.prog w = .ok (.enter fn args) w) (hx : RdS w a xss) (hf : ∀ (k : Nat) (ai : Option Addr) (ci : Nat) (W : World), k < xss.length → Rd W ai (nthL xss k) → Below w.heap.size w W → Calls Try.prog fn #[.slice ai (nthL xss k).length ci] W fun e W' => e = .returned (.bool (p (nthL xss k))) ∧ Below W.heap.size W W') :
    Calls Try.prog 222 #[.slice a xss.length cp, .func (.func fn) #[] #[]] w fun e w' => e = .returned (.bool (xss.any p)) ∧ Below w.heap.size w w' := by
  have hc := idxL0 fn p a cp xss w hent hx hf
  clear hent
  rw [anyL_firstOfL]
  generalize hf : firstOfL p xss = r at hc
  have HF := Lib.hid hf
  have HC := hide hc
  clear hf hc
  by_cases h0 : 0 ≤ r
  · go_enter Try.func222, Try.ntmps222
    go_wp2_with fail
    refine (unhide HC).mono ?_
    rintro e w1 ⟨rfl, b1⟩
    go_wp2
    go_ret
    exact ⟨ret_bool (by simp [h0]), b1⟩
  · go_enter Try.func222, Try.ntmps222
    go_wp2_with fail
    refine (unhide HC).mono ?_
    rintro e w1 ⟨rfl, b1⟩
    go_wp2
    go_ret
    exact ⟨ret_bool (by simp [show ¬ 0 ≤ r by omega]), b1⟩
set_option maxRecDepth 100000 in
set_option maxHeartbeats 800000 in
theorem idxL1 (fn : Nat) (p : List Int → Bool) (q0 : Nat) (a : Option Addr) (cp : Nat) (xss : List (List Int)) (w : World) (hent : ∀ (args : Array Value) (w : World), (callFunc fn args).run Try.prog w = .ok (.enter fn args) w) (hx : RdS w a xss) (hf : ∀ (k : Nat) (ai : Option Addr) (ci : Nat) (W : World), k < xss.length → Rd W ai (nthL xss k) → Below w.heap.size w W → Calls Try.prog fn #[.slice ai (nthL xss k).length ci, .pointer (some ⟨q0, 0, none⟩)] W fun e W' => e = .returned (.bool (p (nthL xss k))) ∧ Below W.heap.size W W') :
    Calls Try.prog 139 #[.slice a xss.length cp, .func (.func fn) #[] #[.pointer (some ⟨q0, 0, none⟩)]] w fun e w' => e = .returned (.int .i64 (firstOfL p xss)) ∧ Below w.heap.size w w' := by
  have hxl := hx.len
  have HF := hide hf
  clear hf
  go_enter Try.func139, Try.ntmps139
  go_wp2_with fail
  go_loopw [8] (fun i wr => ∃ k : Nat, i = .int .i64 k ∧ k ≤ xss.length ∧ Hid (∀ j, j < k → p (nthL xss j) = false) ∧ Below w.heap.size w wr) (fun i _ => xss.length - (intOf i).toNat)
  case atStart => exact ⟨0, rfl, Nat.zero_le _, fun j hj => by omega, Below.refl _ _⟩
  case round =>
    obtain ⟨k, rfl, hk, hq, hb⟩ := hrel
    have hsz := hb.size
    by_cases hkl : k < xss.length
    · obtain ⟨b1, o1, rfl, _, hc⟩ := (hx.below hb).at_ (by omega)
      obtain ⟨ai, ci, h1, hr1⟩ := hc k hkl
      have hcl := unhide HF k ai ci wr hkl hr1 hb
      obtain ⟨r, hr⟩ : ∃ r, p (nthL xss k) = r := ⟨_, rfl⟩
      have HR := Lib.hid hr
      rw [hr] at hcl
      generalize nthL xss k = row at h1 hcl hr1
      have HC := hide hcl
      clear hr hcl hc hr1
      go_wp2_with fail
      refine (unhide HC).mono ?_
      rintro e w1 ⟨rfl, b1⟩
      have hb1 := hb.trans (b1.mono hsz)
      cases r
      · go_wp2
        go_roundw
        case rel =>
          refine ⟨k + 1, by go_num, by omega, fun j hj => ?_, hb1⟩
          rcases Nat.lt_succ_iff_lt_or_eq.1 hj with h | rfl
          · exact hq.out j h
          · exact HR.out
        case measure => simp [intOf]; omega
      · go_wp2
        go_ret
        exact ⟨ret_int (firstOfL_yes hkl HR.out hq.out).symm, hb1⟩
    · go_wp2
      go_ret
      exact ⟨ret_int (firstOfL_no (fun j hj => hq.out j (by omega))).symm, hb⟩
theorem hasL1 (fn : Nat) (p : List Int → Bool) (q0 : Nat) (a : Option Addr) (cp : Nat) (xss : List (List Int)) (w : World) (hent : ∀ (args : Array Value) (w : World), (callFunc fn args).run Try.prog w = .ok (.enter fn args) w) (hx : RdS w a xss) (hf : ∀ (k : Nat) (ai : Option Addr) (ci : Nat) (W : World), k < xss.length → Rd W ai (nthL xss k) → Below w.heap.size w W → Calls Try.prog fn #[.slice ai (nthL xss k).length ci, .pointer (some ⟨q0, 0, none⟩)] W fun e W' => e = .returned (.bool (p (nthL xss k))) ∧ Below W.heap.size W W') :
    Calls Try.prog 222 #[.slice a xss.length cp, .func (.func fn) #[] #[.pointer (some ⟨q0, 0, none⟩)]] w fun e w' => e = .returned (.bool (xss.any p)) ∧ Below w.heap.size w w' := by
  have hc := idxL1 fn p q0 a cp xss w hent hx hf
  clear hent
  rw [anyL_firstOfL]
  generalize hf : firstOfL p xss = r at hc
  have HF := Lib.hid hf
  have HC := hide hc
  clear hf hc
  by_cases h0 : 0 ≤ r
  · go_enter Try.func222, Try.ntmps222
    go_wp2_with fail
    refine (unhide HC).mono ?_
    rintro e w1 ⟨rfl, b1⟩
    go_wp2
    go_ret
    exact ⟨ret_bool (by simp [h0]), b1⟩
  · go_enter Try.func222, Try.ntmps222
    go_wp2_with fail
    refine (unhide HC).mono ?_
    rintro e w1 ⟨rfl, b1⟩
    go_wp2
    go_ret
    exact ⟨ret_bool (by simp [show ¬ 0 ≤ r by omega]), b1⟩
set_option maxRecDepth 100000 in
set_option maxHeartbeats 800000 in
theorem idxL2 (fn : Nat) (p : List Int → Bool) (q0 q1 : Nat) (a : Option Addr) (cp : Nat) (xss : List (List Int)) (w : World) (hent : ∀ (args : Array Value) (w : World), (callFunc fn args).run Try.prog w = .ok (.enter fn args) w) (hx : RdS w a xss) (hf : ∀ (k : Nat) (ai : Option Addr) (ci : Nat) (W : World), k < xss.length → Rd W ai (nthL xss k) → Below w.heap.size w W → Calls Try.prog fn #[.slice ai (nthL xss k).length ci, .pointer (some ⟨q0, 0, none⟩), .pointer (some ⟨q1, 0, none⟩)] W fun e W' => e = .returned (.bool (p (nthL xss k))) ∧ Below W.heap.size W W') :
    Calls Try.prog 139 #[.slice a xss.length cp, .func (.func fn) #[] #[.pointer (some ⟨q0, 0, none⟩), .pointer (some ⟨q1, 0, none⟩)]] w fun e w' => e = .returned (.int .i64 (firstOfL p xss)) ∧ Below w.heap.size w w' := by
  have hxl := hx.len
  have HF := hide hf
  clear hf
  go_enter Try.func139, Try.ntmps139
  go_wp2_with fail
  go_loopw [8] (fun i wr => ∃ k : Nat, i = .int .i64 k ∧ k ≤ xss.length ∧ Hid (∀ j, j < k → p (nthL xss j) = false) ∧ Below w.heap.size w wr) (fun i _ => xss.length - (intOf i).toNat)
  case atStart => exact ⟨0, rfl, Nat.zero_le _, fun j hj => by omega, Below.refl _ _⟩
  case round =>
    obtain ⟨k, rfl, hk, hq, hb⟩ := hrel
    have hsz := hb.size
    by_cases hkl : k < xss.length
    · obtain ⟨b1, o1, rfl, _, hc⟩ := (hx.below hb).at_ (by omega)
      obtain ⟨ai, ci, h1, hr1⟩ := hc k hkl
      have hcl := unhide HF k ai ci wr hkl hr1 hb
      obtain ⟨r, hr⟩ : ∃ r, p (nthL xss k) = r := ⟨_, rfl⟩
      have HR := Lib.hid hr
      rw [hr] at hcl
      generalize nthL xss k = row at h1 hcl hr1
      have HC := hide hcl
      clear hr hcl hc hr1
      go_wp2_with fail
      refine (unhide HC).mono ?_
      rintro e w1 ⟨rfl, b1⟩
      have hb1 := hb.trans (b1.mono hsz)
      cases r
      · go_wp2
        go_roundw
        case rel =>
          refine ⟨k + 1, by go_num, by omega, fun j hj => ?_, hb1⟩
          rcases Nat.lt_succ_iff_lt_or_eq.1 hj with h | rfl
          · exact hq.out j h
          · exact HR.out
        case measure => simp [intOf]; omega
      · go_wp2
        go_ret
        exact ⟨ret_int (firstOfL_yes hkl HR.out hq.out).symm, hb1⟩
    · go_wp2
      go_ret
      exact ⟨ret_int (firstOfL_no (fun j hj => hq.out j (by omega))).symm, hb⟩
theorem hasL2 (fn : Nat) (p : List Int → Bool) (q0 q1 : Nat) (a : Option Addr) (cp : Nat) (xss : List (List Int)) (w : World) (hent : ∀ (args : Array Value) (w : World), (callFunc fn args).run Try.prog w = .ok (.enter fn args) w) (hx : RdS w a xss) (hf : ∀ (k : Nat) (ai : Option Addr) (ci : Nat) (W : World), k < xss.length → Rd W ai (nthL xss k) → Below w.heap.size w W → Calls Try.prog fn #[.slice ai (nthL xss k).length ci, .pointer (some ⟨q0, 0, none⟩), .pointer (some ⟨q1, 0, none⟩)] W fun e W' => e = .returned (.bool (p (nthL xss k))) ∧ Below W.heap.size W W') :
    Calls Try.prog 222 #[.slice a xss.length cp, .func (.func fn) #[] #[.pointer (some ⟨q0, 0, none⟩), .pointer (some ⟨q1, 0, none⟩)]] w fun e w' => e = .returned (.bool (xss.any p)) ∧ Below w.heap.size w w' := by
  have hc := idxL2 fn p q0 q1 a cp xss w hent hx hf
  clear hent
  rw [anyL_firstOfL]
  generalize hf : firstOfL p xss = r at hc
  have HF := Lib.hid hf
  have HC := hide hc
  clear hf hc
  by_cases h0 : 0 ≤ r
  · go_enter Try.func222, Try.ntmps222
    go_wp2_with fail
    refine (unhide HC).mono ?_
    rintro e w1 ⟨rfl, b1⟩
    go_wp2
    go_ret
    exact ⟨ret_bool (by simp [h0]), b1⟩
  · go_enter Try.func222, Try.ntmps222
    go_wp2_with fail
    refine (unhide HC).mono ?_
    rintro e w1 ⟨rfl, b1⟩
    go_wp2
    go_ret
    exact ⟨ret_bool (by simp [show ¬ 0 ≤ r by omega]), b1⟩
end Go.Proofs.Ytgmgpcaahanmiaa

