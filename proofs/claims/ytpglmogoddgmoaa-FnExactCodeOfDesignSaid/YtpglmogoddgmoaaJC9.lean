/-
  Texts joined.
-/
import Derived.Sort.Grow
import Derived.Test.YtpglmogoddgmoaaJC1
import Derived.Test.YtpglmogoddgmoaaJC2
import Derived.Test.YtpglmogoddgmoaaJC8
set_option linter.unusedVariables false
set_option linter.unusedSimpArgs false
set_option maxRecDepth 100000
set_option maxHeartbeats 40000000
namespace Go.Proofs.Ytpglmogoddgmoaa
open Go.RowKit
attribute [local go_sem ↓] Go.wp_at_zero Go.wp_at_succ
def colorOk (x : Int) : Bool := inB x 0 63
def notColor (x : Int) : Bool := !colorOk x
def colorsOk (xs : List Int) : Bool := decide (xs.length ≤ 64) && !xs.any notColor
end Go.Proofs.Ytpglmogoddgmoaa
namespace Go.Proofs.Ytpglmogoddgmoaa
def LtE (e f : Int × Int) : Prop := e.1 < f.1 ∨ (e.1 = f.1 ∧ e.2 < f.2)
theorem LtE.trans {e f g : Int × Int} (h : LtE e f) (k : LtE f g) : LtE e g := by
 unfold LtE at *; omega
structure GG (n : Nat) (xs : List Int) (es : List (Int × Int)) : Prop where
 hn : xs.length = n
 n64 : n ≤ 64
 cols : colorsOk xs = true
 m512 : es.length ≤ 512
 lo : ∀ e ∈ es, 0 ≤ e.1
 lt : ∀ e ∈ es, e.1 < e.2
 hi : ∀ e ∈ es, e.2 < n
 sorted : es.Pairwise LtE
end Go.Proofs.Ytpglmogoddgmoaa
namespace Go.Proofs.Ytpglmogoddgmoaa
def LtL (xs ys : List Int) : Prop := cmpL xs ys < 0
theorem cmpI_zero {x y : Int} : cmpI x y = 0 ↔ x = y := by
 unfold cmpI
 constructor
 · intro h
   split at h
   · omega
   · split at h <;> omega
 · rintro rfl; simp
theorem cmpI_neg {x y : Int} : cmpI x y < 0 ↔ x < y := by
 unfold cmpI
 constructor
 · intro h
   split at h
   · assumption
   · split at h <;> omega
 · intro h; rw [if_pos h]; omega
theorem cmpL_zero : ∀ {xs ys : List Int}, cmpL xs ys = 0 ↔ xs = ys
 | [], [] => by simp [cmpL]
 | [], _ :: _ => by simp [cmpL]
 | _ :: _, [] => by simp [cmpL]
 | x :: xs, y :: ys => by
  rw [cmpL]
  by_cases h : cmpI x y = 0
  · rw [if_pos h, cmpL_zero, List.cons.injEq, cmpI_zero.1 h]; simp
  · rw [if_neg h, List.cons.injEq]
    exact ⟨fun h2 => absurd h2 h, fun h2 => absurd (cmpI_zero.2 h2.1) h⟩
theorem ltL_cons {x y : Int} {xs ys : List Int} : LtL (x :: xs) (y :: ys) ↔ x < y ∨ (x = y ∧ LtL xs ys) := by
 rw [LtL, cmpL]
 by_cases h : cmpI x y = 0
 · rw [if_pos h]
   have := cmpI_zero.1 h
   subst this
   constructor
   · intro h2; exact .inr ⟨rfl, h2⟩
   · rintro (h2 | ⟨_, h2⟩)
     · omega
     · exact h2
 · rw [if_neg h, cmpI_neg]
   have : x ≠ y := fun e => h (cmpI_zero.2 e)
   constructor
   · exact .inl
   · rintro (h2 | ⟨h2, _⟩)
     · exact h2
     · exact absurd h2 this
theorem ltL_nil_left {ys : List Int} : LtL [] ys ↔ ys ≠ [] := by cases ys <;> simp [LtL, cmpL]
theorem ltL_nil_right {xs : List Int} : ¬ LtL xs [] := by cases xs <;> simp [LtL, cmpL]
theorem LtL.irrefl (xs : List Int) : ¬ LtL xs xs := by rw [LtL, cmpL_zero.2 rfl]; omega
theorem LtL.trans : ∀ {xs ys zs : List Int}, LtL xs ys → LtL ys zs → LtL xs zs
 | _, [], _, h, _ => absurd h ltL_nil_right
 | _, _ :: _, [], _, h => absurd h ltL_nil_right
 | [], _ :: _, _ :: _, _, _ => ltL_nil_left.2 (by simp)
 | x :: xs, y :: ys, z :: zs, h, k => by
  rw [ltL_cons] at *
  rcases h with h | ⟨h1, h2⟩ <;> rcases k with k | ⟨k1, k2⟩
  · exact .inl (by omega)
  · exact .inl (by omega)
  · exact .inl (by omega)
  · exact .inr ⟨by omega, h2.trans k2⟩
theorem ltL_tri : ∀ (xs ys : List Int), LtL xs ys ∨ xs = ys ∨ LtL ys xs
 | [], [] => .inr (.inl rfl)
 | [], _ :: _ => .inl (ltL_nil_left.2 (by simp))
 | _ :: _, [] => .inr (.inr (ltL_nil_left.2 (by simp)))
 | x :: xs, y :: ys => by
  rw [ltL_cons, ltL_cons, List.cons.injEq]
  rcases ltL_tri xs ys with h | h | h
  · by_cases h1 : x < y
    · exact .inl (.inl h1)
    · by_cases h2 : y < x
      · exact .inr (.inr (.inl h2))
      · exact .inl (.inr ⟨by omega, h⟩)
  · by_cases h1 : x < y
    · exact .inl (.inl h1)
    · by_cases h2 : y < x
      · exact .inr (.inr (.inl h2))
      · exact .inr (.inl ⟨by omega, h⟩)
  · by_cases h1 : x < y
    · exact .inl (.inl h1)
    · by_cases h2 : y < x
      · exact .inr (.inr (.inl h2))
      · exact .inr (.inr (.inr ⟨by omega, h⟩))
theorem LtL.asymm {xs ys : List Int} (h : LtL xs ys) : ¬ LtL ys xs := fun k => LtL.irrefl _ (h.trans k)
theorem cmpL_le {a b : List Int} : cmpL a b ≤ 0 ↔ ¬ LtL b a := by
 constructor
 · intro h k
   rcases Int.lt_or_eq_of_le h with h | h
   · exact k.asymm h
   · rw [cmpL_zero] at h; subst h; exact LtL.irrefl _ k
 · intro h
   rcases ltL_tri a b with k | k | k
   · exact Int.le_of_lt k
   · rw [cmpL_zero.2 k]; omega
   · exact absurd k h
end Go.Proofs.Ytpglmogoddgmoaa
