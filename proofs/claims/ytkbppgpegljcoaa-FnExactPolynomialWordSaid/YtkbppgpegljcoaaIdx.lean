/-
  Walks of slices.IndexFunc, slices.ContainsFunc at the closure of isZero, and of isZero, slices.Clone. Printed by gen_idx.py.
-/
import Derived.Test.YtkbppgpegljcoaaPP
namespace Go.Proofs.Ytkbppgpegljcoaa
open Go.RowKit

/-- The first place at which a test holds; -1 if there is none. -/
def firstOf (p : Int → Bool) (xs : List Int) : Int := match xs.findIdx? p with | some i => (i : Int) | none => -1
theorem firstOf_yes {p : Int → Bool} {xs : List Int} {k : Nat} (hk : k < xs.length) (h : p (nth xs k) = true) (hq : ∀ j, j < k → p (nth xs j) = false) : firstOf p xs = (k : Int) := by
  have : xs.findIdx? p = some k := by
    rw [List.findIdx?_eq_some_iff_getElem]
    refine ⟨hk, by rw [← nth_lt hk]; exact h, fun j hj => ?_⟩
    rw [← nth_lt (by omega : j < xs.length), hq j hj]; simp
  simp [firstOf, this]
theorem firstOf_no {p : Int → Bool} {xs : List Int} (hq : ∀ j, j < xs.length → p (nth xs j) = false) : firstOf p xs = -1 := by
  have : xs.findIdx? p = none := by
    rw [List.findIdx?_eq_none_iff]
    intro x hx
    obtain ⟨j, hj, rfl⟩ := List.getElem_of_mem hx
    rw [← nth_lt hj]
    exact hq j hj
  simp [firstOf, this]
theorem any_firstOf (p : Int → Bool) (xs : List Int) : xs.any p = decide (0 ≤ firstOf p xs) := by
  unfold firstOf
  cases h : xs.findIdx? p with
  | none =>
    rw [List.findIdx?_eq_none_iff] at h
    simpa using h
  | some i =>
    rw [List.findIdx?_eq_some_iff_getElem] at h
    obtain ⟨hi, hp, _⟩ := h
    have : xs.any p = true := List.any_eq_true.2 ⟨_, List.getElem_mem hi, hp⟩
    simp [this]

def notZero (x : Int) : Bool := x != 0
theorem isZero1_any (x : Int) (w : World) : Calls Try.prog 168 #[.int .i64 x] w fun e w' => e = .returned (.bool (notZero x)) ∧ w = w' := by
  go_enter Try.func168, Try.ntmps168
  go_wp2
  go_ret
  exact ⟨rfl, rfl⟩

set_option maxHeartbeats 400000 in
theorem idx_isZero (a : Option Addr) (c : Nat) (xs : List Int) (w : World) (hx : Rd w a xs) :
    Calls Try.prog 92 #[.slice a xs.length c, .func (.func 168) #[] #[]] w fun e w' => e = .returned (.int .i64 (firstOf notZero xs)) ∧ w = w' := by
  have hxl := hx.len
  go_enter Try.func92, Try.ntmps92
  go_wp2_with fail
  go_loop [8] (fun i => ∃ k : Nat, i = .int .i64 k ∧ k ≤ xs.length ∧ Hid (∀ j, j < k → notZero (nth xs j) = false)) (fun i => xs.length - (intOf i).toNat)
  case atStart => exact ⟨0, rfl, Nat.zero_le _, fun j hj => by omega⟩
  case round =>
    obtain ⟨k, rfl, hk, hq⟩ := hrel
    by_cases hkl : k < xs.length
    · obtain ⟨b1, o1, rfl, _, hc⟩ := hx.at_ (by omega)
      have h1 := hc k hkl
      clear hc hx
      obtain ⟨r, hr⟩ : ∃ r, notZero (nth xs k) = r := ⟨_, rfl⟩
      have HR := Lib.hid hr
      have hcl := isZero1_any (nth xs k) w
      rw [hr] at hcl
      have HC := hide hcl
      clear hr hcl
      go_wp2_with fail
      refine (unhide HC).mono ?_
      rintro e w1 ⟨rfl, rfl⟩
      cases r
      · go_wp2
        go_round
        case rel =>
          refine ⟨k + 1, by go_num, by omega, fun j hj => ?_⟩
          rcases Nat.lt_succ_iff_lt_or_eq.1 hj with h | rfl
          · exact hq.out j h
          · exact HR.out
        case measure => simp [intOf]; omega
      · go_wp2
        go_ret
        exact ⟨ret_int (firstOf_yes hkl HR.out hq.out).symm, rfl⟩
    · go_wp2
      go_ret
      exact ⟨ret_int (firstOf_no (fun j hj => hq.out j (by omega))).symm, rfl⟩

theorem has_isZero (a : Option Addr) (c : Nat) (xs : List Int) (w : World) (hx : Rd w a xs) :
    Calls Try.prog 127 #[.slice a xs.length c, .func (.func 168) #[] #[]] w fun e w' => e = .returned (.bool (xs.any notZero)) ∧ w = w' := by
  have hc := idx_isZero a c xs w hx
  rw [any_firstOf]
  generalize hf : firstOf notZero xs = r at hc
  have HF := Lib.hid hf
  have HC := hide hc
  clear hf hc
  by_cases h0 : 0 ≤ r
  · go_enter Try.func127, Try.ntmps127
    go_wp2_with fail
    refine (unhide HC).mono ?_
    rintro e w1 ⟨rfl, rfl⟩
    go_wp2
    go_ret
    exact ⟨ret_bool (by simp [h0]), rfl⟩
  · go_enter Try.func127, Try.ntmps127
    go_wp2_with fail
    refine (unhide HC).mono ?_
    rintro e w1 ⟨rfl, rfl⟩
    go_wp2
    go_ret
    exact ⟨ret_bool (by simp [show ¬ 0 ≤ r by omega]), rfl⟩

/-- All numbers of a list are 0. -/
def isZ (xs : List Int) : Bool := !xs.any notZero
theorem isZero_any (a : Option Addr) (c : Nat) (xs : List Int) (w : World) (hx : Rd w a xs) :
    Calls Try.prog 160 #[.slice a xs.length c] w fun e w' => e = .returned (.bool (isZ xs)) ∧ w = w' := by
  have hc := has_isZero a c xs w hx
  unfold isZ
  generalize hf : xs.any notZero = r at hc
  have HC := hide hc
  clear hf hc
  go_enter Try.func160, Try.ntmps160
  go_wp2_with fail
  refine (unhide HC).mono ?_
  rintro e w1 ⟨rfl, rfl⟩
  go_wp2
  go_ret
  exact ⟨rfl, rfl⟩
end Go.Proofs.Ytkbppgpegljcoaa
