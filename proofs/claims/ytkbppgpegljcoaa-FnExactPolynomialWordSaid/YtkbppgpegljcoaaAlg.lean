/-
  Plain mathematics: sums and products of numbers of digits, modulo a prime and a polynomial. No program here.
-/
import Derived.Test.YtkbppgpegljcoaaIrr
namespace Go.Proofs.Ytkbppgpegljcoaa
open Go.RowKit

/-! ### Equal modulo p -/
def Cg (p a b : Int) : Prop := ∃ k, a = b + p * k
theorem Cg.refl (p a : Int) : Cg p a a := ⟨0, by simp⟩
theorem Cg.of_eq {p a b : Int} (h : a = b) : Cg p a b := h ▸ Cg.refl p a
theorem Cg.symm {p a b : Int} (h : Cg p a b) : Cg p b a := by
  obtain ⟨k, rfl⟩ := h
  exact ⟨-k, by grind⟩
theorem Cg.trans {p a b c : Int} (h : Cg p a b) (g : Cg p b c) : Cg p a c := by
  obtain ⟨k, rfl⟩ := h
  obtain ⟨j, rfl⟩ := g
  exact ⟨j + k, by grind⟩
theorem Cg.add {p a b c d : Int} (h : Cg p a b) (g : Cg p c d) : Cg p (a + c) (b + d) := by
  obtain ⟨k, rfl⟩ := h
  obtain ⟨j, rfl⟩ := g
  exact ⟨k + j, by grind⟩
theorem Cg.mul {p a b c d : Int} (h : Cg p a b) (g : Cg p c d) : Cg p (a * c) (b * d) := by
  obtain ⟨k, rfl⟩ := h
  obtain ⟨j, rfl⟩ := g
  exact ⟨b * j + k * d + p * k * j, by grind⟩
theorem Cg.sub {p a b c d : Int} (h : Cg p a b) (g : Cg p c d) : Cg p (a - c) (b - d) := by
  obtain ⟨k, rfl⟩ := h
  obtain ⟨j, rfl⟩ := g
  exact ⟨k - j, by grind⟩
theorem Cg.emod (p a : Int) : Cg p (a % p) a := ⟨-(a / p), by have := Int.emod_add_mul_ediv a p; grind⟩
theorem Cg.eq {p a b : Int} (h : Cg p a b) (ha : 0 ≤ a ∧ a < p) (hb : 0 ≤ b ∧ b < p) : a = b := by
  obtain ⟨k, hk⟩ := h
  have h1 : a % p = b % p := by rw [hk, Int.add_mul_emod_self_left]
  rwa [Int.emod_eq_of_lt ha.1 ha.2, Int.emod_eq_of_lt hb.1 hb.2] at h1
theorem Cg.emod_eq {p a b : Int} (h : Cg p a b) : a % p = b % p := by
  obtain ⟨k, rfl⟩ := h
  rw [Int.add_mul_emod_self_left]

/-! ### Digits -/
theorem nth_big {xs : List Int} {i : Nat} (h : xs.length ≤ i) : nth xs i = 0 := by simp [nth, h]
theorem nth_cons_zero (x : Int) (xs : List Int) : nth (x :: xs) 0 = x := rfl
theorem nth_cons_succ (x : Int) (xs : List Int) (i : Nat) : nth (x :: xs) (i + 1) = nth xs i := rfl
theorem num_nth {p : Int} (hp : 0 < p) : ∀ (xs : List Int), InR p xs → ∀ i, i < xs.length → num p xs / p ^ i % p = nth xs i := by
  intro xs
  induction xs with
  | nil => intro _ i hi; simp at hi
  | cons x xs ih =>
    intro h i hi
    have hx := h x List.mem_cons_self
    have hxs : InR p xs := fun y hy => h y (List.mem_cons_of_mem _ hy)
    rw [num_cons]
    rcases i with _ | i
    · rw [nth_cons_zero, Int.pow_zero, Int.ediv_one, Int.add_comm, Int.add_mul_emod_self_right, Int.emod_eq_of_lt hx.1 hx.2]
    · rw [nth_cons_succ, Int.pow_succ', ← Int.ediv_ediv_of_nonneg (by omega)]
      have e : (num p xs * p + x) / p = num p xs := by
        rw [Int.add_comm, Int.add_mul_ediv_right _ _ (by omega), Int.ediv_eq_zero_of_lt hx.1 hx.2, Int.zero_add]
      rw [e]
      exact ih hxs i (by simpa using hi)
theorem dig_num {p : Int} (hp : 0 < p) {xs : List Int} (h : InR p xs) {k : Nat} (hk : xs.length = k) : dig (num p xs) p k = xs := by
  apply eq_of_nth (by rw [dig_len, hk])
  intro i hi
  rw [dig_len] at hi
  rw [dig_nth _ _ hi, num_nth hp xs h i (by omega)]
theorem dig_cons (a p : Int) (hp : 0 < p) (k : Nat) : dig a p (k + 1) = a % p :: dig (a / p) p k := by
  unfold dig
  rw [List.range_succ_eq_map, List.map_cons, List.map_map, Int.pow_zero, Int.ediv_one]
  congr 1
  apply List.map_congr_left
  intro i _
  show a / p ^ (i + 1) % p = a / p / p ^ i % p
  rw [Int.pow_succ', ← Int.ediv_ediv_of_nonneg (by omega)]
theorem num_dig {p : Int} (hp : 0 < p) (k : Nat) : ∀ {a : Int}, 0 ≤ a → a < p ^ k → num p (dig a p k) = a := by
  induction k with
  | zero => intro a h0 h1; simp at h1; obtain rfl : a = 0 := by omega
            rfl
  | succ k ih =>
    intro a h0 h1
    rw [dig_cons a p hp, num_cons, ih (Int.ediv_nonneg h0 (by omega)) (Int.ediv_lt_of_lt_mul hp (by rw [Int.pow_succ] at h1; exact h1))]
    have := Int.emod_add_mul_ediv a p
    grind
theorem dig_inR {p : Int} (hp : 0 < p) (a : Int) (k : Nat) : InR p (dig a p k) := dig_range hp k
theorem dig_zero (p : Int) (k : Nat) : dig 0 p k = List.replicate k 0 := by
  apply eq_of_nth (by rw [dig_len, List.length_replicate])
  intro i hi
  rw [dig_len] at hi
  rw [dig_nth _ _ hi, nth_lt (by simpa using hi)]
  simp

/-! ### Sums -/
def lin (s p : Int) (k : Nat) (a b : Int) : Int := num p ((List.range k).map fun (i : Nat) => (a / p ^ i % p + s * (b / p ^ i % p)) % p)
theorem lin_inR {p : Int} (hp : 0 < p) (s : Int) (k : Nat) (a b : Int) : InR p ((List.range k).map fun (i : Nat) => (a / p ^ i % p + s * (b / p ^ i % p)) % p) := by
  intro x hx
  obtain ⟨i, _, rfl⟩ := List.mem_map.1 hx
  exact emod_range hp _
theorem lin_dig {p : Int} (hp : 0 < p) (s : Int) (k : Nat) (a b : Int) {i : Nat} (hi : i < k) : nth (dig (lin s p k a b) p k) i = (nth (dig a p k) i + s * nth (dig b p k) i) % p := by
  rw [lin, dig_num hp (lin_inR hp s k a b) (by simp), nth_lt (by simpa using hi), dig_nth _ _ hi, dig_nth _ _ hi]
  simp
theorem lin_range {p : Int} (hp : 0 < p) (s : Int) (k : Nat) (a b : Int) : 0 ≤ lin s p k a b ∧ lin s p k a b < p ^ k := by
  have h := num_bound hp (lin_inR hp s k a b)
  simpa [lin] using h
/-- Two elements with the same digits are equal. -/
theorem dig_ext {p : Int} (hp : 0 < p) {k : Nat} {a b : Int} (ha : 0 ≤ a ∧ a < p ^ k) (hb : 0 ≤ b ∧ b < p ^ k) (h : ∀ i, i < k → Cg p (nth (dig a p k) i) (nth (dig b p k) i)) : a = b := by
  rw [← num_dig hp k ha.1 ha.2, ← num_dig hp k hb.1 hb.2]
  congr 1
  apply eq_of_nth (by rw [dig_len, dig_len])
  intro i hi
  have hi2 := hi
  rw [dig_len] at hi
  exact (h i hi).eq ((dig_inR hp a k).nth hi2) ((dig_inR hp b k).nth (by rw [dig_len]; exact hi))
theorem lin_cg {p : Int} (hp : 0 < p) (s : Int) (k : Nat) (a b : Int) {i : Nat} (hi : i < k) : Cg p (nth (dig (lin s p k a b) p k) i) (nth (dig a p k) i + s * nth (dig b p k) i) := by
  rw [lin_dig hp s k a b hi]; exact Cg.emod _ _
theorem lin_sign {p : Int} (k : Nat) (a b : Int) : lin (p - 1) p k a b = lin (-1) p k a b := by
  unfold lin
  congr 1
  apply List.map_congr_left
  intro i _
  exact Cg.emod_eq ⟨b / p ^ i % p, by grind⟩
theorem dig_zero_nth (p : Int) {k i : Nat} (h : i < k) : nth (dig 0 p k) i = 0 := by rw [dig_nth _ _ h]; simp
theorem lin_zero {p : Int} (hp : 0 < p) (s : Int) {k : Nat} {a : Int} (ha : 0 ≤ a ∧ a < p ^ k) : lin s p k a 0 = a := by
  refine dig_ext hp (lin_range hp ..) ha fun i hi => (lin_cg hp s k a 0 hi).trans ?_
  rw [dig_zero_nth p hi]
  exact Cg.of_eq (by simp)

/-! ### Finite sums -/
def sm (f : Nat → Int) : Nat → Int
  | 0 => 0
  | n + 1 => sm f n + f n
theorem sm_congr {f g : Nat → Int} {n : Nat} (h : ∀ i, i < n → f i = g i) : sm f n = sm g n := by
  induction n with
  | zero => rfl
  | succ n ih => rw [sm, sm, ih (fun i hi => h i (by omega)), h n (by omega)]
theorem sm_cg {p : Int} {f g : Nat → Int} {n : Nat} (h : ∀ i, i < n → Cg p (f i) (g i)) : Cg p (sm f n) (sm g n) := by
  induction n with
  | zero => exact Cg.refl _ _
  | succ n ih => exact (ih (fun i hi => h i (by omega))).add (h n (by omega))
theorem sm_lin (s : Int) (f g : Nat → Int) (n : Nat) : sm (fun i => f i + s * g i) n = sm f n + s * sm g n := by
  induction n with
  | zero => simp [sm]
  | succ n ih => simp only [sm, ih]; grind
theorem sm_zero {f : Nat → Int} {n : Nat} (h : ∀ i, i < n → f i = 0) : sm f n = 0 := by
  induction n with
  | zero => rfl
  | succ n ih => rw [sm, ih (fun i hi => h i (by omega)), h n (by omega)]; rfl
theorem sm_more {f : Nat → Int} {a n : Nat} (han : a ≤ n) (h : ∀ i, a ≤ i → i < n → f i = 0) : sm f n = sm f a := by
  induction n with
  | zero => obtain rfl : a = 0 := by omega
            rfl
  | succ n ih =>
    by_cases e : a = n + 1
    · rw [e]
    · rw [sm, ih (by omega) (fun i h1 h2 => h i h1 (by omega)), h n (by omega) (by omega), Int.add_zero]
theorem sm_shift (f : Nat → Int) (n : Nat) : sm f (n + 1) = f 0 + sm (fun i => f (i + 1)) n := by
  induction n with
  | zero => simp [sm]
  | succ n ih => rw [sm, ih, sm]; grind
theorem sm_flip (f : Nat → Int) (n : Nat) : sm (fun i => f (n - 1 - i)) n = sm f n := by
  induction n generalizing f with
  | zero => rfl
  | succ n ih =>
    rw [sm_shift f, ← ih, sm]
    have : sm (fun i => f (n + 1 - 1 - i)) n = sm (fun i => f (n - 1 - i + 1)) n := sm_congr fun i hi => by congr 1; omega
    rw [this]
    simp [Int.add_comm]

/-! ### Products of polynomials -/
def convTo (p : Int) (xs ys z : List Int) : Nat → List Int
  | 0 => z
  | i + 1 => setK (convTo p xs ys z i) ys (-(nth xs i)) p i ys.length
def zeros (m : Nat) : List Int := List.replicate m 0
theorem zeros_len (m : Nat) : (zeros m).length = m := by simp [zeros]
theorem zeros_nth (m i : Nat) : nth (zeros m) i = 0 := by
  simp only [nth, zeros, List.getD_eq_getElem?_getD, List.getElem?_replicate]
  split <;> rfl
theorem zeros_inR {p : Int} (hp : 0 < p) (m : Nat) : InR p (zeros m) := by
  intro x hx
  obtain rfl : x = 0 := by simpa [zeros] using (List.mem_replicate.1 hx).2
  omega
theorem convTo_len (p : Int) (xs ys z : List Int) (i : Nat) : (convTo p xs ys z i).length = z.length := by
  induction i with
  | zero => rfl
  | succ i ih => rw [convTo, setK_len, ih]
theorem convTo_inR {p : Int} (hp : 0 < p) (xs ys : List Int) {z : List Int} (hz : InR p z) (i : Nat) : InR p (convTo p xs ys z i) := by
  induction i with
  | zero => exact hz
  | succ i ih => exact setK_in hp ih _ _ _ _
theorem setK_get (xs ys : List Int) (c p : Int) (off k j : Nat) (h : off + k ≤ xs.length) :
    nth (setK xs ys c p off k) j = if off ≤ j ∧ j < off + k then (nth xs j - c * nth ys (j - off)) % p else nth xs j := by
  induction k with
  | zero => rw [if_neg (by omega)]; rfl
  | succ k ih =>
    have ih := ih (by omega)
    rw [setK]
    by_cases e : j = off + k
    · subst e
      rw [nth_set_same (by rw [setK_len]; omega), if_pos (by omega), Nat.add_sub_cancel_left]
    · rw [nth_set_ne (by omega), ih]
      by_cases g : off ≤ j ∧ j < off + k
      · rw [if_pos g, if_pos (by omega)]
      · rw [if_neg g, if_neg (by omega)]
def cv (x y : Nat → Int) (m : Nat) (n : Nat) : Int := sm (fun i => if i ≤ m then x i * y (m - i) else 0) n
theorem convTo_nth {p : Int} (hp : 0 < p) (xs ys : List Int) (L : Nat) (i : Nat) (hi : i + ys.length ≤ L + 1) (h0 : i ≤ L) (m : Nat) :
    nth (convTo p xs ys (zeros L) i) m = cv (nth xs) (nth ys) m i % p := by
  induction i with
  | zero => rw [convTo, zeros_nth]; simp [cv, sm]
  | succ i ih =>
    have ih := ih (by omega) (by omega)
    rw [convTo, setK_get _ _ _ _ _ _ _ (by rw [convTo_len, zeros_len]; omega), ih]
    show _ = (cv (nth xs) (nth ys) m i + (if i ≤ m then nth xs i * nth ys (m - i) else 0)) % p
    by_cases h1 : i ≤ m
    · rw [if_pos h1]
      by_cases h2 : m < i + ys.length
      · rw [if_pos ⟨h1, h2⟩]
        refine Cg.emod_eq (((Cg.emod p (cv (nth xs) (nth ys) m i)).sub (Cg.refl p _)).trans (Cg.of_eq ?_))
        grind
      · rw [if_neg (by omega), nth_big (xs := ys) (by omega)]; simp
    · rw [if_neg h1, if_neg (by omega)]; simp
theorem cv_full {x y : Nat → Int} {n : Nat} (hx : ∀ i, n ≤ i → x i = 0) (m : Nat) : cv x y m n = sm (fun i => x i * y (m - i)) (m + 1) := by
  unfold cv
  rcases Nat.le_total n (m + 1) with h | h
  · rw [sm_more h (fun i h1 h2 => by rw [hx i h1, Int.zero_mul])]
    exact sm_congr fun i hi => if_pos (by omega)
  · rw [sm_more h (fun i h1 h2 => if_neg (by omega))]
    exact sm_congr fun i hi => if_pos (by omega)
theorem cv_comm {x y : Nat → Int} {n : Nat} (hx : ∀ i, n ≤ i → x i = 0) (hy : ∀ i, n ≤ i → y i = 0) (m : Nat) : cv x y m n = cv y x m n := by
  rw [cv_full hx, cv_full hy, ← sm_flip (fun i => y i * x (m - i)) (m + 1)]
  apply sm_congr
  intro i hi
  show _ = y (m + 1 - 1 - i) * x (m - (m + 1 - 1 - i))
  rw [Int.mul_comm, show m + 1 - 1 - i = m - i by omega, show m - (m - i) = i by omega]
theorem cv_cg {p : Int} {x y x' y' : Nat → Int} {m n : Nat} (hx : ∀ i, Cg p (x i) (x' i)) (hy : ∀ i, Cg p (y i) (y' i)) : Cg p (cv x y m n) (cv x' y' m n) := by
  refine sm_cg fun i _ => ?_
  split
  · exact (hx _).mul (hy _)
  · exact Cg.refl _ _
theorem cv_lin (s : Int) (x y z : Nat → Int) (m n : Nat) : cv x (fun i => y i + s * z i) m n = cv x y m n + s * cv x z m n := by
  unfold cv
  rw [← sm_lin]
  apply sm_congr
  intro i _
  split
  · grind
  · simp

/-! ### Remainders are linear -/
theorem remTo_lin {p : Int} (s : Int) (ys xs us vs : List Int) (hu : us.length = xs.length) (hv : vs.length = xs.length) (hy : 1 ≤ ys.length)
    (h : ∀ j, Cg p (nth xs j) (nth us j + s * nth vs j)) (t : Nat) (ht : t ≤ xs.length - (ys.length - 1)) : ∀ j, Cg p (nth (remTo p ys xs t) j) (nth (remTo p ys us t) j + s * nth (remTo p ys vs t) j) := by
  induction t with
  | zero => exact h
  | succ t ih =>
    have ih := ih (by omega)
    intro j
    rw [remTo, remTo, remTo, hu, hv, setK_get _ _ _ _ _ _ _ (by rw [remTo_len]; omega), setK_get _ _ _ _ _ _ _ (by rw [remTo_len, hu]; omega), setK_get _ _ _ _ _ _ _ (by rw [remTo_len, hv]; omega)]
    split
    · refine (Cg.emod _ _).trans (Cg.trans ?_ ((Cg.emod _ _).add ((Cg.refl p s).mul (Cg.emod _ _))).symm)
      refine ((ih j).sub ((ih _).mul (Cg.refl p _))).trans (Cg.of_eq ?_)
      grind
    · exact ih j
theorem take_nth_lt {xs : List Int} {k j : Nat} (h : j < k) : nth (xs.take k) j = nth xs j := by
  simp [nth, List.getD_eq_getElem?_getD, h]
theorem prem_lin {p : Int} (s : Int) (ys xs us vs : List Int) (hu : us.length = xs.length) (hv : vs.length = xs.length) (hy : 1 ≤ ys.length)
    (h : ∀ j, Cg p (nth xs j) (nth us j + s * nth vs j)) (j : Nat) : Cg p (nth (prem p ys xs) j) (nth (prem p ys us) j + s * nth (prem p ys vs) j) := by
  by_cases hj : j < ys.length - 1
  · rw [prem, prem, prem, take_nth_lt hj, take_nth_lt hj, take_nth_lt hj, hu, hv]
    exact remTo_lin s ys xs us vs hu hv hy h _ (Nat.le_refl _) j
  · rw [nth_big (by rw [prem_len]; omega), nth_big (by rw [prem_len]; omega), nth_big (by rw [prem_len]; omega)]
    exact Cg.of_eq (by simp)

/-! ### Products of elements -/
def mulD (p : Int) (poly xs ys : List Int) (L : Nat) : List Int := prem p poly (convTo p xs ys (zeros L) xs.length)
def mulF (p : Int) (k : Nat) (poly : List Int) (a b : Int) : Int := num p (mulD p poly (dig a p k) (dig b p k) (2 * k))
section
variable {p : Int} {k : Nat} {poly : List Int}
theorem mulD_len (hl : poly.length = k + 1) {xs ys : List Int} {L : Nat} (hL : k ≤ L) : (mulD p poly xs ys L).length = k := by
  rw [mulD, prem_len, convTo_len, zeros_len]; omega
theorem mulD_inR (hp : 0 < p) (xs ys : List Int) (L : Nat) : InR p (mulD p poly xs ys L) := prem_in hp (convTo_inR hp _ _ (zeros_inR hp _) _) _
theorem mulF_range (hp : 0 < p) (hl : poly.length = k + 1) (a b : Int) : 0 ≤ mulF p k poly a b ∧ mulF p k poly a b < p ^ k := by
  have h := num_bound hp (mulD_inR (poly := poly) hp (dig a p k) (dig b p k) (2 * k))
  rwa [mulD_len hl (by omega)] at h
theorem mulF_dig (hp : 0 < p) (hl : poly.length = k + 1) (a b : Int) : dig (mulF p k poly a b) p k = mulD p poly (dig a p k) (dig b p k) (2 * k) :=
  dig_num hp (mulD_inR hp _ _ _) (mulD_len hl (by omega))
theorem mulF_comm (hp : 0 < p) (a b : Int) : mulF p k poly a b = mulF p k poly b a := by
  unfold mulF mulD
  congr 2
  rw [dig_len, dig_len]
  apply eq_of_nth (by rw [convTo_len, convTo_len])
  intro m hm
  rw [convTo_nth hp _ _ _ _ (by rw [dig_len]; omega) (by omega), convTo_nth hp _ _ _ _ (by rw [dig_len]; omega) (by omega)]
  rw [cv_comm (fun i hi => nth_big (by rw [dig_len]; exact hi)) (fun i hi => nth_big (by rw [dig_len]; exact hi))]
theorem lin_cg_all (hp : 0 < p) (s a b : Int) (i : Nat) : Cg p (nth (dig (lin s p k a b) p k) i) (nth (dig a p k) i + s * nth (dig b p k) i) := by
  by_cases hi : i < k
  · exact lin_cg hp s k a b hi
  · rw [nth_big (by rw [dig_len]; omega), nth_big (by rw [dig_len]; omega), nth_big (by rw [dig_len]; omega)]
    exact Cg.of_eq (by simp)
theorem mulF_lin (hp : 0 < p) (hl : poly.length = k + 1) (s a b c : Int) : mulF p k poly a (lin s p k b c) = lin s p k (mulF p k poly a b) (mulF p k poly a c) := by
  refine dig_ext hp (mulF_range hp hl _ _) (lin_range hp ..) fun i hi => ?_
  refine Cg.trans ?_ (lin_cg hp s k _ _ hi).symm
  rw [mulF_dig hp hl, mulF_dig hp hl, mulF_dig hp hl]
  refine prem_lin s poly _ _ _ (by rw [convTo_len, convTo_len]) (by rw [convTo_len, convTo_len]) (by omega) (fun j => ?_) i
  rw [dig_len, convTo_nth hp _ _ _ _ (by rw [dig_len]; omega) (by omega), convTo_nth hp _ _ _ _ (by rw [dig_len]; omega) (by omega), convTo_nth hp _ _ _ _ (by rw [dig_len]; omega) (by omega)]
  refine (Cg.emod _ _).trans (Cg.trans ?_ ((Cg.emod _ _).add ((Cg.refl p s).mul (Cg.emod _ _))).symm)
  refine (cv_cg (fun i => Cg.refl _ _) (fun i => lin_cg_all hp s b c i)).trans (Cg.of_eq ?_)
  exact cv_lin s _ _ _ _ _
theorem mulF_zero (hp : 0 < p) (hl : poly.length = k + 1) (a : Int) : mulF p k poly a 0 = 0 := by
  have h0 : (0 : Int) < p ^ k := Int.pow_pos hp
  have h := mulF_lin hp hl (-1) a 0 0
  rw [lin_zero hp (-1) ⟨Int.le_refl _, h0⟩] at h
  refine dig_ext hp (mulF_range hp hl _ _) ⟨Int.le_refl _, h0⟩ fun i hi => ?_
  rw [h]
  refine (lin_cg hp _ _ _ _ hi).trans ?_
  rw [dig_zero_nth p hi]
  exact Cg.of_eq (by grind)
theorem zero_mulF (hp : 0 < p) (hl : poly.length = k + 1) (a : Int) : mulF p k poly 0 a = 0 := by rw [mulF_comm hp, mulF_zero hp hl]
/-- a + (-c) w = a - c w. -/
theorem add_neg_mul (hp : 0 < p) (hl : poly.length = k + 1) (a c w : Int) : lin 1 p k a (mulF p k poly (lin (-1) p k 0 c) w) = lin (-1) p k a (mulF p k poly c w) := by
  rw [mulF_comm hp (lin _ _ _ _ _), mulF_lin hp hl, mulF_zero hp hl, mulF_comm hp w c]
  refine dig_ext hp (lin_range hp ..) (lin_range hp ..) fun i hi => ?_
  refine ((lin_cg hp _ _ _ _ hi).trans ((Cg.refl p _).add ((Cg.refl p _).mul (lin_cg hp _ _ _ _ hi)))).trans (Cg.trans ?_ (lin_cg hp _ _ _ _ hi).symm)
  rw [dig_zero_nth p hi]
  exact Cg.of_eq (by grind)
end

/-! ### A further zero -/
theorem inR_nth {p : Int} (hp : 0 < p) {xs : List Int} (h : InR p xs) (j : Nat) : 0 ≤ nth xs j ∧ nth xs j < p := by
  by_cases hj : j < xs.length
  · exact h.nth hj
  · rw [nth_big (by omega)]; omega
theorem remTo_succ (p : Int) (ys xs : List Int) (t : Nat) : remTo p ys xs (t + 1) = setK (remTo p ys xs t) ys (nth (remTo p ys xs t) (xs.length - 1 - t)) p (xs.length - 1 - t - (ys.length - 1)) ys.length := rfl
theorem remTo_pad {p : Int} (hp : 0 < p) (ys xs us : List Int) (hl : xs.length = us.length + 1) (hr : InR p xs) (hy : 1 ≤ ys.length) (hyl : ys.length - 1 ≤ us.length)
    (h : ∀ j, nth xs j = nth us j) (t : Nat) (ht : t ≤ us.length - (ys.length - 1)) : ∀ j, nth (remTo p ys xs (t + 1)) j = nth (remTo p ys us t) j := by
  induction t with
  | zero =>
    intro j
    rw [remTo, remTo, remTo, setK_get _ _ _ _ _ _ _ (by omega), h (xs.length - 1 - 0), nth_big (xs := us) (by omega)]
    split
    · rw [Int.zero_mul, Int.sub_zero, h j, ← h j, Int.emod_eq_of_lt (inR_nth hp hr j).1 (inR_nth hp hr j).2]
    · exact h j
  | succ t ih =>
    have ih := ih (by omega)
    intro j
    rw [remTo_succ p ys xs (t + 1), remTo_succ p ys us t, setK_get _ _ _ _ _ _ _ (by rw [remTo_len]; omega), setK_get _ _ _ _ _ _ _ (by rw [remTo_len]; omega), ih j, hl, show us.length + 1 - 1 - (t + 1) = us.length - 1 - t by omega, ih]
theorem mulD_pad {p : Int} (hp : 0 < p) {k : Nat} {poly xs ys : List Int} (hk : 1 ≤ k) (hl : poly.length = k + 1) (hx : xs.length = k) (hy : ys.length = k) : mulD p poly xs ys (2 * k - 1) = mulD p poly xs ys (2 * k) := by
  have hz : ∀ L, (convTo p xs ys (zeros L) xs.length).length = L := fun L => by rw [convTo_len, zeros_len]
  apply eq_of_nth (by rw [mulD_len hl (by omega), mulD_len hl (by omega)])
  intro i hi
  rw [mulD_len hl (by omega)] at hi
  unfold mulD prem
  rw [take_nth_lt (by omega), take_nth_lt (by omega), hz, hz, show 2 * k - (poly.length - 1) = (2 * k - 1 - (poly.length - 1)) + 1 by omega]
  refine (remTo_pad hp poly _ _ (by rw [hz, hz]; omega) (convTo_inR hp _ _ (zeros_inR hp _) _) (by omega) (by rw [hz]; omega) (fun j => ?_) _ (by rw [hz]; exact Nat.le_refl _) i).symm
  rw [convTo_nth hp _ _ _ _ (by omega) (by omega), convTo_nth hp _ _ _ _ (by omega) (by omega)]
end Go.Proofs.Ytkbppgpegljcoaa
