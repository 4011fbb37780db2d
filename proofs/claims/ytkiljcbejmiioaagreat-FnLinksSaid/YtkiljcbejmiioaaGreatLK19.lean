/-
  Texts joined.
-/
import Derived.Sort.Grow
import Derived.Test.YtkiljcbejmiioaaGreatLK1
import Derived.Test.YtkiljcbejmiioaaGreatLK2
import Derived.Test.YtkiljcbejmiioaaGreatLK5
import Derived.Test.YtkiljcbejmiioaaGreatLK15
import Derived.Test.YtkiljcbejmiioaaGreatLK17
import Derived.Test.YtkiljcbejmiioaaGreatLK18
set_option linter.unusedVariables false
set_option linter.unusedSimpArgs false
set_option maxRecDepth 100000
set_option maxHeartbeats 40000000
namespace Go.Proofs.YtkiljcbejmiioaaGreat
open Go.RowKit
attribute [local go_sem ↓] Go.wp_at_zero Go.wp_at_succ
def colorOk (x : Int) : Bool := inB x 0 63
def notColor (x : Int) : Bool := !colorOk x
def colorsOk (xs : List Int) : Bool := decide (xs.length ≤ 64) && !xs.any notColor
end Go.Proofs.YtkiljcbejmiioaaGreat
namespace Go.Proofs.YtkiljcbejmiioaaGreat
def LtE (e f : Int × Int) : Prop := e.1 < f.1 ∨ (e.1 = f.1 ∧ e.2 < f.2)
theorem LtE.trans {e f g : Int × Int} (h : LtE e f) (k : LtE f g) : LtE e g := by
 unfold LtE at *; omega
structure GG (n : Nat) (xs : List Int) (es : List (Int × Int)) : Prop where
 hn : xs.length = n
 n64 : n ≤ 64
 cols : colorsOk xs = true
 m512 : es.length ≤ 512
 lo : ∀ e ∈ es, 0 ≤ e.1
 lt : ∀ e ∈ es, e.1 < e.2
 hi : ∀ e ∈ es, e.2 < n
 sorted : es.Pairwise LtE
def cmpctFrom {α : Type} (eq : α → α → Bool) : α → List α → List α
 | _, [] => []
 | x, y :: ys => if eq y x then cmpctFrom eq y ys else y :: cmpctFrom eq y ys
def cmpct {α : Type} (eq : α → α → Bool) : List α → List α
 | [] => []
 | x :: xs => x :: cmpctFrom eq x xs
theorem cmpctFrom_snoc {α : Type} (eq : α → α → Bool) : ∀ (x : α) (xs : List α) (y : α), cmpctFrom eq x (xs ++ [y]) = cmpctFrom eq x xs ++ bif eq y ((x :: xs).getLast (by simp)) then [] else [y]
 | x, [], y => by cases h : eq y x <;> simp [cmpctFrom, h]
 | x, z :: zs, y => by
  rw [List.cons_append, cmpctFrom, cmpctFrom, cmpctFrom_snoc eq z zs y]
  by_cases h : eq z x = true
  · rw [if_pos h, if_pos h]; rfl
  · rw [if_neg h, if_neg h]; rfl
theorem cmpct_snoc {α : Type} (eq : α → α → Bool) (xs : List α) (h : xs ≠ []) (y : α) : cmpct eq (xs ++ [y]) = cmpct eq xs ++ bif eq y (xs.getLast h) then [] else [y] := by
 cases xs with
 | nil => exact absurd rfl h
 | cons x xs => rw [List.cons_append, cmpct, cmpct, cmpctFrom_snoc]; rfl
theorem cmpctFrom_mem {α : Type} {eq : α → α → Bool} (he : ∀ a b, eq a b = true ↔ a = b) : ∀ (x : α) (xs : List α) (z : α), z ∈ x :: cmpctFrom eq x xs ↔ z ∈ x :: xs
 | x, [], z => by simp [cmpctFrom]
 | x, y :: ys, z => by
  have ih := cmpctFrom_mem he y ys z
  rw [cmpctFrom]
  by_cases h : eq y x = true
  · rw [if_pos h]
    have := (he _ _).1 h
    subst this
    rw [ih]; simp
  · rw [if_neg h]
    rw [List.mem_cons, ih, List.mem_cons (l := y :: ys)]
theorem cmpct_mem {α : Type} {eq : α → α → Bool} (he : ∀ a b, eq a b = true ↔ a = b) (xs : List α) (z : α) : z ∈ cmpct eq xs ↔ z ∈ xs := by
 cases xs with
 | nil => simp [cmpct]
 | cons x xs => exact cmpctFrom_mem he x xs z
theorem cmpctFrom_sub {α : Type} (eq : α → α → Bool) : ∀ (x : α) (xs : List α), (cmpctFrom eq x xs).Sublist xs
 | _, [] => by simp [cmpctFrom]
 | x, y :: ys => by
  rw [cmpctFrom]
  split
  · exact (cmpctFrom_sub eq y ys).cons _
  · exact (cmpctFrom_sub eq y ys).cons_cons _
theorem cmpct_sub {α : Type} (eq : α → α → Bool) (xs : List α) : (cmpct eq xs).Sublist xs := by
 cases xs with
 | nil => simp [cmpct]
 | cons x xs => exact (cmpctFrom_sub eq x xs).cons_cons _
theorem cmpctFrom_strict {α : Type} {eq : α → α → Bool} {R : α → α → Prop} (he : ∀ a b, eq a b = true ↔ a = b) (ht : ∀ a b c, R a b → R b c → R a c) (ha : ∀ a b, ¬ R b a → a ≠ b → R a b) (hn : ∀ a b, R a b → ¬ R b a) :
    ∀ (x : α) (xs : List α), (x :: xs).Pairwise (fun a b => ¬ R b a) → (x :: cmpctFrom eq x xs).Pairwise R
 | x, [], _ => by simp [cmpctFrom]
 | x, y :: ys, h => by
  have h2 := List.pairwise_cons.1 h
  have ih := cmpctFrom_strict he ht ha hn y ys h2.2
  rw [cmpctFrom]
  by_cases e : eq y x = true
  · rw [if_pos e]
    have := (he _ _).1 e
    subst this
    exact ih
  · rw [if_neg e]
    have hxy : R x y := ha _ _ (h2.1 y (List.mem_cons_self ..)) (fun e2 => e ((he _ _).2 e2.symm))
    refine List.pairwise_cons.2 ⟨fun z hz => ?_, ih⟩
    rcases List.mem_cons.1 hz with rfl | hz
    · exact hxy
    · exact ht _ _ _ hxy ((List.pairwise_cons.1 ih).1 z hz)
theorem cmpct_strict {α : Type} {eq : α → α → Bool} {R : α → α → Prop} (he : ∀ a b, eq a b = true ↔ a = b) (ht : ∀ a b c, R a b → R b c → R a c) (ha : ∀ a b, ¬ R b a → a ≠ b → R a b) (hn : ∀ a b, R a b → ¬ R b a) (xs : List α) (h : xs.Pairwise (fun a b => ¬ R b a)) : (cmpct eq xs).Pairwise R := by
 cases xs with
 | nil => simp [cmpct]
 | cons x xs => exact cmpctFrom_strict he ht ha hn x xs h
def sameE (e f : Int × Int) : Bool := decide (e = f)
end Go.Proofs.YtkiljcbejmiioaaGreat
namespace Go.Proofs.YtkiljcbejmiioaaGreat
def LtL (xs ys : List Int) : Prop := cmpL xs ys < 0
theorem cmpI_zero {x y : Int} : cmpI x y = 0 ↔ x = y := by
 unfold cmpI
 constructor
 · intro h
   split at h
   · omega
   · split at h <;> omega
 · rintro rfl; simp
theorem cmpI_neg {x y : Int} : cmpI x y < 0 ↔ x < y := by
 unfold cmpI
 constructor
 · intro h
   split at h
   · assumption
   · split at h <;> omega
 · intro h; rw [if_pos h]; omega
theorem cmpL_zero : ∀ {xs ys : List Int}, cmpL xs ys = 0 ↔ xs = ys
 | [], [] => by simp [cmpL]
 | [], _ :: _ => by simp [cmpL]
 | _ :: _, [] => by simp [cmpL]
 | x :: xs, y :: ys => by
  rw [cmpL]
  by_cases h : cmpI x y = 0
  · rw [if_pos h, cmpL_zero, List.cons.injEq, cmpI_zero.1 h]; simp
  · rw [if_neg h, List.cons.injEq]
    exact ⟨fun h2 => absurd h2 h, fun h2 => absurd (cmpI_zero.2 h2.1) h⟩
theorem ltL_cons {x y : Int} {xs ys : List Int} : LtL (x :: xs) (y :: ys) ↔ x < y ∨ (x = y ∧ LtL xs ys) := by
 rw [LtL, cmpL]
 by_cases h : cmpI x y = 0
 · rw [if_pos h]
   have := cmpI_zero.1 h
   subst this
   constructor
   · intro h2; exact .inr ⟨rfl, h2⟩
   · rintro (h2 | ⟨_, h2⟩)
     · omega
     · exact h2
 · rw [if_neg h, cmpI_neg]
   have : x ≠ y := fun e => h (cmpI_zero.2 e)
   constructor
   · exact .inl
   · rintro (h2 | ⟨h2, _⟩)
     · exact h2
     · exact absurd h2 this
theorem ltL_nil_left {ys : List Int} : LtL [] ys ↔ ys ≠ [] := by cases ys <;> simp [LtL, cmpL]
theorem ltL_nil_right {xs : List Int} : ¬ LtL xs [] := by cases xs <;> simp [LtL, cmpL]
theorem LtL.irrefl (xs : List Int) : ¬ LtL xs xs := by rw [LtL, cmpL_zero.2 rfl]; omega
theorem LtL.trans : ∀ {xs ys zs : List Int}, LtL xs ys → LtL ys zs → LtL xs zs
 | _, [], _, h, _ => absurd h ltL_nil_right
 | _, _ :: _, [], _, h => absurd h ltL_nil_right
 | [], _ :: _, _ :: _, _, _ => ltL_nil_left.2 (by simp)
 | x :: xs, y :: ys, z :: zs, h, k => by
  rw [ltL_cons] at *
  rcases h with h | ⟨h1, h2⟩ <;> rcases k with k | ⟨k1, k2⟩
  · exact .inl (by omega)
  · exact .inl (by omega)
  · exact .inl (by omega)
  · exact .inr ⟨by omega, h2.trans k2⟩
theorem ltL_tri : ∀ (xs ys : List Int), LtL xs ys ∨ xs = ys ∨ LtL ys xs
 | [], [] => .inr (.inl rfl)
 | [], _ :: _ => .inl (ltL_nil_left.2 (by simp))
 | _ :: _, [] => .inr (.inr (ltL_nil_left.2 (by simp)))
 | x :: xs, y :: ys => by
  rw [ltL_cons, ltL_cons, List.cons.injEq]
  rcases ltL_tri xs ys with h | h | h
  · by_cases h1 : x < y
    · exact .inl (.inl h1)
    · by_cases h2 : y < x
      · exact .inr (.inr (.inl h2))
      · exact .inl (.inr ⟨by omega, h⟩)
  · by_cases h1 : x < y
    · exact .inl (.inl h1)
    · by_cases h2 : y < x
      · exact .inr (.inr (.inl h2))
      · exact .inr (.inl ⟨by omega, h⟩)
  · by_cases h1 : x < y
    · exact .inl (.inl h1)
    · by_cases h2 : y < x
      · exact .inr (.inr (.inl h2))
      · exact .inr (.inr (.inr ⟨by omega, h⟩))
theorem LtL.asymm {xs ys : List Int} (h : LtL xs ys) : ¬ LtL ys xs := fun k => LtL.irrefl _ (h.trans k)
def sortL (xs : List (List Int)) : List (List Int) := xs.mergeSort fun a b => decide (cmpL a b ≤ 0)
theorem cmpL_le {a b : List Int} : cmpL a b ≤ 0 ↔ ¬ LtL b a := by
 constructor
 · intro h k
   rcases Int.lt_or_eq_of_le h with h | h
   · exact k.asymm h
   · rw [cmpL_zero] at h; subst h; exact LtL.irrefl _ k
 · intro h
   rcases ltL_tri a b with k | k | k
   · exact Int.le_of_lt k
   · rw [cmpL_zero.2 k]; omega
   · exact absurd k h
theorem sortL_perm (xs : List (List Int)) : (sortL xs).Perm xs := List.mergeSort_perm _ _
theorem sortL_le (xs : List (List Int)) : (sortL xs).Pairwise (fun a b => ¬ LtL b a) := by
 refine (List.pairwise_mergeSort (le := fun a b => decide (cmpL a b ≤ 0)) (fun a b c h1 h2 => ?_) (fun a b => ?_) xs).imp (fun h => cmpL_le.1 (by simpa using h))
 · simp only [decide_eq_true_eq, cmpL_le] at *
   intro k
   rcases ltL_tri b c with h | h | h
   · exact h1 (h.trans k)
   · subst h; exact h1 k
   · exact h2 h
 · simp only [Bool.or_eq_true, decide_eq_true_eq, cmpL_le]
   by_cases h : LtL b a
   · exact .inr h.asymm
   · exact .inl h
theorem sortL_eq {xs ys : List (List Int)} (hp : ys.Perm xs) (hs : ys.Pairwise (fun a b => ¬ LtL b a)) : ys = sortL xs :=
 List.Perm.eq_of_pairwise (le := fun a b => ¬ LtL b a) (fun a b _ _ h1 h2 => by
  rcases ltL_tri a b with h | h | h
  · exact absurd h h2
  · exact h
  · exact absurd h h1) hs (sortL_le xs) (hp.trans (sortL_perm xs).symm)
def eqL (a b : List Int) : Bool := decide (a = b)
theorem eqL_iff (a b : List Int) : eqL a b = true ↔ a = b := by simp [eqL]
def distL (xs : List (List Int)) : List (List Int) := cmpct eqL (sortL xs)
theorem distL_strict (xs : List (List Int)) : (distL xs).Pairwise LtL :=
 cmpct_strict (R := LtL) eqL_iff (fun _ _ _ h k => h.trans k) (fun a b h k => by
  rcases ltL_tri a b with h2 | h2 | h2
  · exact h2
  · exact absurd h2 k
  · exact absurd h2 h) (fun a b h => h.asymm) _ (sortL_le xs)
theorem distL_mem (xs : List (List Int)) (x : List Int) : x ∈ distL xs ↔ x ∈ xs := by rw [distL, cmpct_mem eqL_iff, (sortL_perm xs).mem_iff]
theorem cmpct_sortL {xs ys : List (List Int)} (hp : ys.Perm xs) (hs : ys.Pairwise (fun a b => ¬ LtL b a)) : cmpct eqL ys = distL xs := by rw [sortL_eq hp hs]; rfl
end Go.Proofs.YtkiljcbejmiioaaGreat
namespace Go.Proofs.YtkiljcbejmiioaaGreat
open Go.RowKit
attribute [local go_sem ↓] Go.wp_at_zero Go.wp_at_succ
def InE (n : Nat) (es : List (Int × Int)) : Prop := ∀ e ∈ es, 0 ≤ e.1 ∧ e.1 < n ∧ 0 ≤ e.2 ∧ e.2 < n
theorem InE.at_ {n : Nat} {es : List (Int × Int)} (h : InE n es) {k : Nat} (hk : k < es.length) : ∃ x y : Nat, nthE es k = ((x : Int), (y : Int)) ∧ x < n ∧ y < n := by
 obtain ⟨h1, h2, h3, h4⟩ := h _ (nthE_mem hk)
 refine ⟨(nthE es k).1.toNat, (nthE es k).2.toNat, ?_, by omega, by omega⟩
 rw [Int.toNat_of_nonneg h1, Int.toNat_of_nonneg h3]
end Go.Proofs.YtkiljcbejmiioaaGreat
