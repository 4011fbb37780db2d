/-
  Plain mathematics: sums and products of elements, for all numbers; a polynomial has no more roots than its degree.
-/
import Derived.BigQuiet
import Derived.Deep.DeepCutAuto
import Derived.Deep.DeepMust
import Derived.Deep.DrawnRows
import Derived.Deep.Draws
import Derived.Deep.OwnRows
import Derived.Deep.QuietTactic
import Derived.Deep.RegionHeld3
import Derived.Laws.Rows
import Derived.Lib.Hide
import Derived.Maps.AppendAt
import Derived.StillTailTactics
import Derived.Test.YtgmgpcaahanmiaaProg
import Derived.WalkKit
import Derived.WalkLawsBesides
import Derived.WalkSpells
import Derived.Test.YtgmgpcaahanmiaaZ5
import Derived.Test.YtgmgpcaahanmiaaZ7
set_option linter.unusedVariables false
set_option linter.unusedSimpArgs false
namespace Go.Proofs.Ytgmgpcaahanmiaa
open Go.RowKit

section
variable {F : FD}
/-- A digit of an element. -/
def FD.D (F : FD) (a : Int) (i : Nat) : Int := nth (dig a F.p F.k) i
theorem el_ext (ok : F.Ok) {x y : Int} (hx : F.el x) (hy : F.el y) (h : ∀ i, i < F.k → Cg F.p (F.D x i) (F.D y i)) : x = y := dig_ext (by have := ok.p2; omega) hx hy h
theorem D_lin (ok : F.Ok) (s a b : Int) {i : Nat} (hi : i < F.k) : Cg F.p (F.D (lin s F.p F.k a b) i) (F.D a i + s * F.D b i) := lin_cg (by have := ok.p2; omega) s F.k a b hi
theorem lin_el (ok : F.Ok) (s a b : Int) : F.el (lin s F.p F.k a b) := lin_range (by have := ok.p2; omega) s F.k a b
theorem D_zero (F : FD) {i : Nat} (hi : i < F.k) : F.D 0 i = 0 := dig_zero_nth F.p hi
theorem zero_el (ok : F.Ok) : F.el 0 := ⟨Int.le_refl _, by rw [ok.n_eq]; have := ok.n_bd; omega⟩
/-- The digits of a sum of sums. -/
theorem D_lin2 (ok : F.Ok) {s a b u v : Int} {i : Nat} (hi : i < F.k) (ha : Cg F.p (F.D a i) u) (hb : Cg F.p (F.D b i) v) : Cg F.p (F.D (lin s F.p F.k a b) i) (u + s * v) :=
  (D_lin ok s a b hi).trans (ha.add ((Cg.refl _ s).mul hb))
theorem lin_eq (ok : F.Ok) {x y : Int} {f g : Nat → Int} (hx : F.el x) (hy : F.el y) (h1 : ∀ i, i < F.k → Cg F.p (F.D x i) (f i)) (h2 : ∀ i, i < F.k → Cg F.p (F.D y i) (g i)) (h : ∀ i, f i = g i) : x = y :=
  el_ext ok hx hy fun i hi => (h1 i hi).trans ((Cg.of_eq (h i)).trans (h2 i hi).symm)
theorem add_comm' (ok : F.Ok) (a b : Int) : F.add a b = F.add b a :=
  lin_eq ok (lin_el ok _ _ _) (lin_el ok _ _ _) (fun i hi => D_lin ok _ _ _ hi) (fun i hi => D_lin ok _ _ _ hi) fun i => by omega
theorem add_assoc' (ok : F.Ok) (a b c : Int) : F.add (F.add a b) c = F.add a (F.add b c) :=
  lin_eq ok (lin_el ok _ _ _) (lin_el ok _ _ _) (fun i hi => D_lin2 ok hi (D_lin ok _ _ _ hi) (Cg.refl _ _)) (fun i hi => D_lin2 ok hi (Cg.refl _ _) (D_lin ok _ _ _ hi)) fun i => by omega
theorem add_zero' (ok : F.Ok) {a : Int} (ha : F.el a) : F.add a 0 = a := lin_zero (by have := ok.p2; omega) 1 ha
theorem sub_zero_el (ok : F.Ok) {a : Int} (ha : F.el a) : F.sub a 0 = a := lin_zero (by have := ok.p2; omega) (-1) ha
theorem zero_add' (ok : F.Ok) {a : Int} (ha : F.el a) : F.add 0 a = a := by rw [add_comm' ok, add_zero' ok ha]
theorem sub_self' (ok : F.Ok) (a : Int) : F.sub a a = 0 :=
  lin_eq ok (lin_el ok _ _ _) (zero_el ok) (fun i hi => D_lin ok _ _ _ hi) (fun i hi => Cg.of_eq (D_zero F hi)) fun i => by omega
theorem eq_of_sub (ok : F.Ok) {a b : Int} (ha : F.el a) (hb : F.el b) (h : F.sub a b = 0) : a = b := by
  refine el_ext ok ha hb fun i hi => ?_
  have h1 := D_lin ok (-1) a b hi
  have h2 : F.D (lin (-1) F.p F.k a b) i = 0 := by
    show F.D (F.sub a b) i = 0
    rw [h, D_zero F hi]
  rw [h2] at h1
  have h3 := h1.add (Cg.refl F.p (F.D b i))
  refine (Cg.of_eq ?_).trans (h3.symm.trans (Cg.of_eq ?_)) <;> omega
theorem mul_zero_all (ok : F.Ok) (a : Int) : F.mul a 0 = 0 := mulF_zero (by have := ok.p2; omega) ok.len a
theorem zero_mul_all (ok : F.Ok) (a : Int) : F.mul 0 a = 0 := zero_mulF (by have := ok.p2; omega) ok.len a
theorem mul_add' (ok : F.Ok) (a b c : Int) : F.mul a (F.add b c) = F.add (F.mul a b) (F.mul a c) := mul_lin ok a 1 b c
theorem mul_sub' (ok : F.Ok) (a b c : Int) : F.mul a (F.sub b c) = F.sub (F.mul a b) (F.mul a c) := mul_lin ok a (-1) b c
theorem add_mul' (ok : F.Ok) (a b c : Int) : F.mul (F.add a b) c = F.add (F.mul a c) (F.mul b c) := mul_lin' ok c 1 a b
theorem sub_mul' (ok : F.Ok) (a b c : Int) : F.mul (F.sub a b) c = F.sub (F.mul a c) (F.mul b c) := mul_lin' ok c (-1) a b
theorem mul_red (ok : F.Ok) (a b : Int) : F.mul (F.add a 0) b = F.mul a b := by rw [add_mul' ok, zero_mul_all ok, add_zero' ok (mul_el ok a b)]
theorem mul_red2 (ok : F.Ok) (a b : Int) : F.mul b (F.add a 0) = F.mul b a := by rw [mul_comm' ok, mul_red ok, mul_comm' ok]
theorem mul_assoc_all (ok : F.Ok) (a b c : Int) : F.mul (F.mul a b) c = F.mul a (F.mul b c) := by
  have h := mul_assoc' ok (a := F.add a 0) (b := F.add b 0) (c := c) (lin_el ok _ _ _) (lin_el ok _ _ _)
  rw [mul_red ok, mul_red2 ok, mul_red ok, mul_red ok] at h
  exact h
theorem el_n (ok : F.Ok) {a : Int} : F.el a ↔ 0 ≤ a ∧ a < F.n := by rw [FD.el, ok.n_eq]
theorem no_div (hG : F.Good) {a b : Int} (ha : F.el a) (hb : F.el b) (h : F.mul a b = 0) : a = 0 ∨ b = 0 := by
  by_cases h0 : a = 0
  · exact .inl h0
  · right
    have ok := hG.ok
    have ha2 := (el_n ok).1 ha
    obtain ⟨i1, i2, i3, _⟩ := inv_spec hG (a := a) (by omega) ha2.2
    have e := mul_assoc' ok (a := F.inv a) (b := a) (c := b) ((el_n ok).2 ⟨by omega, i3⟩) ha
    rw [h, mul_zero_all ok, mul_comm' ok (F.inv a) a, i1, one_mul' ok hb] at e
    exact e

theorem valF_cons (F : FD) (x c : Int) (cs : List Int) : valF F x (c :: cs) = F.add (F.mul (valF F x cs) x) c := rfl
theorem valF_el (ok : F.Ok) (x : Int) (p : List Int) : F.el (valF F x p) := by
  cases p with
  | nil => exact zero_el ok
  | cons c cs => exact lin_el ok _ _ _
/-- The quotient by x - r. -/
def quot (F : FD) (r : Int) : List Int → List Int
  | [] => []
  | [_] => []
  | _ :: c :: cs => valF F r (c :: cs) :: quot F r (c :: cs)
theorem quot_len (F : FD) (r : Int) : ∀ p : List Int, (quot F r p).length = p.length - 1
  | [] => rfl
  | [_] => rfl
  | _ :: c :: cs => by rw [quot, List.length_cons, quot_len F r (c :: cs)]; simp
theorem quot_el (ok : F.Ok) (r : Int) : ∀ p : List Int, ∀ c ∈ quot F r p, F.el c
  | [] => by simp [quot]
  | [_] => by simp [quot]
  | _ :: d :: ds => fun c hc => by
    rw [quot, List.mem_cons] at hc
    rcases hc with rfl | hc
    · exact valF_el ok _ _
    · exact quot_el ok r (d :: ds) c hc
theorem quot_eq (ok : F.Ok) (x r : Int) : ∀ p : List Int, F.sub (valF F x p) (valF F r p) = F.mul (F.sub x r) (valF F x (quot F r p))
  | [] => by show F.sub 0 0 = F.mul _ 0; rw [sub_self' ok, mul_zero_all ok]
  | [c] => by
    show F.sub (F.add (F.mul 0 x) c) (F.add (F.mul 0 r) c) = F.mul _ 0
    rw [zero_mul_all ok, zero_mul_all ok, sub_self' ok, mul_zero_all ok]
  | c :: d :: ds => by
    have ih := quot_eq ok x r (d :: ds)
    rw [quot, valF_cons, valF_cons F r c, valF_cons F x (valF F r (d :: ds))]
    generalize valF F x (d :: ds) = g at ih
    generalize valF F r (d :: ds) = h at ih ⊢
    generalize valF F x (quot F r (d :: ds)) = Q at ih ⊢
    have hQ : F.mul (F.sub x r) (F.mul Q x) = F.sub (F.mul g x) (F.mul h x) := by
      rw [← mul_assoc_all ok, ← ih, sub_mul' ok]
    rw [mul_add' ok, hQ, sub_mul' ok x r h, mul_comm' ok x h, mul_comm' ok r h]
    exact lin_eq ok (lin_el ok _ _ _) (lin_el ok _ _ _) (fun i hi => D_lin2 ok hi (D_lin ok _ _ _ hi) (D_lin ok _ _ _ hi)) (fun i hi => D_lin2 ok hi (D_lin ok _ _ _ hi) (D_lin ok _ _ _ hi)) fun i => by omega
theorem quot_zero (ok : F.Ok) (r : Int) : ∀ p : List Int, (∀ c ∈ p, F.el c) → (∀ c ∈ quot F r p, c = 0) → ∀ c ∈ p.tail, c = 0
  | [] => by simp
  | [_] => by simp
  | c :: d :: ds => fun he hz => by
    have h1 := hz (valF F r (d :: ds)) (by rw [quot]; exact List.mem_cons_self)
    have h2 := quot_zero ok r (d :: ds) (fun x hx => he x (List.mem_cons_of_mem _ hx)) (fun x hx => hz x (by rw [quot]; exact List.mem_cons_of_mem _ hx))
    have h3 : valF F r ds = 0 := by
      clear h1 he hz
      induction ds with
      | nil => rfl
      | cons e es ih =>
        have he := h2 e (by simp)
        rw [valF_cons, ih (fun x hx => h2 x (by simp at hx ⊢; exact .inr hx)), zero_mul_all ok, he, add_zero' ok (zero_el ok)]
    rw [valF_cons, h3, zero_mul_all ok, zero_add' ok (he d (by simp))] at h1
    intro x hx
    simp only [List.tail_cons, List.mem_cons] at hx
    rcases hx with rfl | hx
    · exact h1
    · exact h2 x hx
/-- As many roots as places: nothing but zeros. -/
theorem roots (hG : F.Good) : ∀ (k : Nat) (p : List Int), p.length ≤ k → (∀ c ∈ p, F.el c) → ∀ rs : List Int, rs.Nodup → (∀ r ∈ rs, F.el r ∧ valF F r p = 0) → k ≤ rs.length → ∀ c ∈ p, c = 0
  | 0, p, hp, _, _, _, _, _ => by
    have : p = [] := List.eq_nil_of_length_eq_zero (by omega)
    subst this
    simp
  | k + 1, p, hp, he, rs, hn, hr, hk => by
    have ok := hG.ok
    cases rs with
    | nil => simp at hk
    | cons r rs =>
      have hq := roots hG k (quot F r p) (by rw [quot_len]; omega) (quot_el ok r p) rs (List.nodup_cons.1 hn).2 (fun s hs => ⟨(hr s (List.mem_cons_of_mem _ hs)).1, by
        have e := quot_eq ok s r p
        rw [(hr s (List.mem_cons_of_mem _ hs)).2, (hr r List.mem_cons_self).2, sub_self' ok] at e
        rcases no_div hG (lin_el ok _ _ _ : F.el (F.sub s r)) (valF_el ok s _) e.symm with h | h
        · have := eq_of_sub ok (hr s (List.mem_cons_of_mem _ hs)).1 (hr r List.mem_cons_self).1 h
          subst this
          exact absurd hs (List.nodup_cons.1 hn).1
        · exact h⟩) (by simp at hk; omega)
      have hz := quot_zero ok r p he hq
      cases p with
      | nil => simp
      | cons c cs =>
        have h0 : valF F r cs = 0 := by
          have hz' : ∀ x ∈ cs, x = 0 := hz
          clear hz hq hr he hp
          induction cs with
          | nil => rfl
          | cons e es ih => rw [valF_cons, ih (fun x hx => hz' x (List.mem_cons_of_mem _ hx)), zero_mul_all ok, hz' e List.mem_cons_self, add_zero' ok (zero_el ok)]
        have h1 := (hr r List.mem_cons_self).2
        rw [valF_cons, h0, zero_mul_all ok, zero_add' ok (he c List.mem_cons_self)] at h1
        intro x hx
        rcases List.mem_cons.1 hx with rfl | hx
        · exact h1
        · exact hz x hx
end
end Go.Proofs.Ytgmgpcaahanmiaa

/-
  Plain mathematics: at most one message has a word near to a list.
-/
namespace Go.Proofs.Ytgmgpcaahanmiaa
open Go.RowKit

/-- At how many of the first k places two lists differ. -/
def apartTo (a b : List Int) : Nat → Nat
  | 0 => 0
  | k + 1 => if nth a k = nth b k then apartTo a b k else apartTo a b k + 1
theorem apartTo_le (a b : List Int) (k : Nat) : apartTo a b k ≤ k := by
  induction k with
  | zero => exact Nat.le_refl _
  | succ k ih => rw [apartTo]; split <;> omega
section
variable {F : FD}
theorem valF_zip (ok : F.Ok) (x : Int) : ∀ p q : List Int, p.length = q.length → valF F x (List.zipWith F.sub p q) = F.sub (valF F x p) (valF F x q)
  | [], [], _ => by show (0 : Int) = F.sub 0 0; rw [sub_self' ok]
  | c :: cs, d :: ds, h => by
    have ih := valF_zip ok x cs ds (by simpa using h)
    rw [List.zipWith_cons_cons, valF_cons, ih, valF_cons, valF_cons, sub_mul' ok]
    exact lin_eq ok (lin_el ok _ _ _) (lin_el ok _ _ _) (fun i hi => D_lin2 ok hi (D_lin ok _ _ _ hi) (D_lin ok _ _ _ hi)) (fun i hi => D_lin2 ok hi (D_lin ok _ _ _ hi) (D_lin ok _ _ _ hi)) fun i => by omega
  | [], _ :: _, h => by simp at h
  | _ :: _, [], h => by simp at h
def agree (a b : List Int) (k : Nat) : List Nat := (List.range k).filter fun i => nth a i == nth b i
theorem agree_len (a b w : List Int) (k : Nat) : k ≤ (agree a b k).length + apartTo a w k + apartTo b w k := by
  induction k with
  | zero => simp
  | succ k ih =>
    have e : agree a b (k + 1) = agree a b k ++ (if nth a k == nth b k then [k] else []) := by
      rw [agree, List.range_succ, List.filter_append]
      congr 1
      simp only [List.filter_cons, List.filter_nil]
    rw [e, List.length_append, apartTo, apartTo]
    by_cases h : nth a k = nth b k
    · rw [if_pos (by simpa using h)]
      simp only [List.length_singleton]
      split <;> split <;> omega
    · rw [if_neg (by simpa using h)]
      simp only [List.length_nil]
      split
      · rw [if_neg (by omega)]; omega
      · split <;> omega
theorem vals_nth (F : FD) (msg : List Int) {n i : Nat} (h : i < n) : nth (vals F msg n) i = valF F i msg := by simp [vals, nth, h]
theorem vals_unique (hG : F.Good) {K N : Nat} (hN : N ≤ F.n) (hKN : K ≤ N) {m1 m2 w : List Int} (l1 : m1.length = K) (l2 : m2.length = K) (e1 : ∀ c ∈ m1, F.el c) (e2 : ∀ c ∈ m2, F.el c)
    (h1 : 2 * apartTo (vals F m1 N) w N ≤ N - K) (h2 : 2 * apartTo (vals F m2 N) w N ≤ N - K) : m1 = m2 := by
  have ok := hG.ok
  have hz := roots hG K (List.zipWith F.sub m1 m2) (by rw [List.length_zipWith]; omega) (fun c hc => by
      obtain ⟨i, hi, rfl⟩ := List.getElem_of_mem hc
      rw [List.getElem_zipWith]
      exact lin_el ok _ _ _)
    ((agree (vals F m1 N) (vals F m2 N) N).map fun (i : Nat) => (i : Int)) (by
      refine List.Pairwise.map _ (fun a b h e => h (by exact_mod_cast e)) (List.Pairwise.filter _ List.nodup_range)) (fun r hr => by
      obtain ⟨i, hi, rfl⟩ := List.mem_map.1 hr
      obtain ⟨hi1, hi2⟩ := List.mem_filter.1 hi
      rw [List.mem_range] at hi1
      have hi2 : nth (vals F m1 N) i = nth (vals F m2 N) i := by simpa using hi2
      rw [vals_nth F _ hi1, vals_nth F _ hi1] at hi2
      refine ⟨(el_n ok).2 ⟨by omega, by omega⟩, ?_⟩
      rw [valF_zip ok _ _ _ (by omega), hi2, sub_self' ok])
    (by rw [List.length_map]; have := agree_len (vals F m1 N) (vals F m2 N) w N; omega)
  refine List.ext_getElem (by omega) fun i hi1 hi2 => ?_
  have h := hz (F.sub m1[i] m2[i]) (by
    have : (List.zipWith F.sub m1 m2)[i]'(by rw [List.length_zipWith]; omega) = F.sub m1[i] m2[i] := List.getElem_zipWith
    rw [← this]
    exact List.getElem_mem _)
  exact eq_of_sub ok (e1 _ (List.getElem_mem _)) (e2 _ (List.getElem_mem _)) h
end
end Go.Proofs.Ytgmgpcaahanmiaa

