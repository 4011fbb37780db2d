/-
  Texts joined.
-/
import Derived.Test.YtgfcbmflnldicaaMX1
set_option linter.unusedVariables false
set_option linter.unusedSimpArgs false
set_option maxRecDepth 100000
set_option maxHeartbeats 40000000
namespace Go.Proofs.Ytgfcbmflnldicaa
open Go.RowKit
def Cg (p a b : Int) : Prop := ∃ k, a = b + p * k
theorem Cg.refl (p a : Int) : Cg p a a := ⟨0, by simp⟩
theorem Cg.of_eq {p a b : Int} (h : a = b) : Cg p a b := h ▸ Cg.refl p a
theorem Cg.symm {p a b : Int} (h : Cg p a b) : Cg p b a := by
 obtain ⟨k, rfl⟩ := h
 exact ⟨-k, by grind⟩
theorem Cg.trans {p a b c : Int} (h : Cg p a b) (g : Cg p b c) : Cg p a c := by
 obtain ⟨k, rfl⟩ := h
 obtain ⟨j, rfl⟩ := g
 exact ⟨j + k, by grind⟩
theorem Cg.add {p a b c d : Int} (h : Cg p a b) (g : Cg p c d) : Cg p (a + c) (b + d) := by
 obtain ⟨k, rfl⟩ := h
 obtain ⟨j, rfl⟩ := g
 exact ⟨k + j, by grind⟩
theorem Cg.mul {p a b c d : Int} (h : Cg p a b) (g : Cg p c d) : Cg p (a * c) (b * d) := by
 obtain ⟨k, rfl⟩ := h
 obtain ⟨j, rfl⟩ := g
 exact ⟨b * j + k * d + p * k * j, by grind⟩
theorem Cg.sub {p a b c d : Int} (h : Cg p a b) (g : Cg p c d) : Cg p (a - c) (b - d) := by
 obtain ⟨k, rfl⟩ := h
 obtain ⟨j, rfl⟩ := g
 exact ⟨k - j, by grind⟩
theorem Cg.emod (p a : Int) : Cg p (a % p) a := ⟨-(a / p), by have := Int.emod_add_mul_ediv a p; grind⟩
theorem Cg.eq {p a b : Int} (h : Cg p a b) (ha : 0 ≤ a ∧ a < p) (hb : 0 ≤ b ∧ b < p) : a = b := by
 obtain ⟨k, hk⟩ := h
 have h1 : a % p = b % p := by rw [hk, Int.add_mul_emod_self_left]
 rwa [Int.emod_eq_of_lt ha.1 ha.2, Int.emod_eq_of_lt hb.1 hb.2] at h1
theorem Cg.emod_eq {p a b : Int} (h : Cg p a b) : a % p = b % p := by
 obtain ⟨k, rfl⟩ := h
 rw [Int.add_mul_emod_self_left]
theorem nth_big {xs : List Int} {i : Nat} (h : xs.length ≤ i) : nth xs i = 0 := by simp [nth, h]
theorem nth_cons_zero (x : Int) (xs : List Int) : nth (x :: xs) 0 = x := rfl
theorem nth_cons_succ (x : Int) (xs : List Int) (i : Nat) : nth (x :: xs) (i + 1) = nth xs i := rfl
theorem num_nth {p : Int} (hp : 0 < p) : ∀ (xs : List Int), InR p xs → ∀ i, i < xs.length → num p xs / p ^ i % p = nth xs i := by
 intro xs
 induction xs with
 | nil => intro _ i hi; simp at hi
 | cons x xs ih =>
  intro h i hi
  have hx := h x List.mem_cons_self
  have hxs : InR p xs := fun y hy => h y (List.mem_cons_of_mem _ hy)
  rw [num_cons]
  rcases i with _ | i
  · rw [nth_cons_zero, Int.pow_zero, Int.ediv_one, Int.add_comm, Int.add_mul_emod_self_right, Int.emod_eq_of_lt hx.1 hx.2]
  · rw [nth_cons_succ, Int.pow_succ', ← Int.ediv_ediv_of_nonneg (by omega)]
    have e : (num p xs * p + x) / p = num p xs := by
     rw [Int.add_comm, Int.add_mul_ediv_right _ _ (by omega), Int.ediv_eq_zero_of_lt hx.1 hx.2, Int.zero_add]
    rw [e]
    exact ih hxs i (by simpa using hi)
theorem dig_num {p : Int} (hp : 0 < p) {xs : List Int} (h : InR p xs) {k : Nat} (hk : xs.length = k) : dig (num p xs) p k = xs := by
 apply eq_of_nth (by rw [dig_len, hk])
 intro i hi
 rw [dig_len] at hi
 rw [dig_nth _ _ hi, num_nth hp xs h i (by omega)]
theorem dig_cons (a p : Int) (hp : 0 < p) (k : Nat) : dig a p (k + 1) = a % p :: dig (a / p) p k := by
 unfold dig
 rw [List.range_succ_eq_map, List.map_cons, List.map_map, Int.pow_zero, Int.ediv_one]
 congr 1
 apply List.map_congr_left
 intro i _
 show a / p ^ (i + 1) % p = a / p / p ^ i % p
 rw [Int.pow_succ', ← Int.ediv_ediv_of_nonneg (by omega)]
theorem num_dig {p : Int} (hp : 0 < p) (k : Nat) : ∀ {a : Int}, 0 ≤ a → a < p ^ k → num p (dig a p k) = a := by
 induction k with
 | zero => intro a h0 h1; simp at h1; obtain rfl : a = 0 := by omega
           rfl
 | succ k ih =>
  intro a h0 h1
  rw [dig_cons a p hp, num_cons, ih (Int.ediv_nonneg h0 (by omega)) (Int.ediv_lt_of_lt_mul hp (by rw [Int.pow_succ] at h1; exact h1))]
  have := Int.emod_add_mul_ediv a p
  grind
theorem dig_inR {p : Int} (hp : 0 < p) (a : Int) (k : Nat) : InR p (dig a p k) := dig_range hp k
def lin (s p : Int) (k : Nat) (a b : Int) : Int := num p ((List.range k).map fun (i : Nat) => (a / p ^ i % p + s * (b / p ^ i % p)) % p)
theorem lin_inR {p : Int} (hp : 0 < p) (s : Int) (k : Nat) (a b : Int) : InR p ((List.range k).map fun (i : Nat) => (a / p ^ i % p + s * (b / p ^ i % p)) % p) := by
 intro x hx
 obtain ⟨i, _, rfl⟩ := List.mem_map.1 hx
 exact emod_range hp _
theorem lin_dig {p : Int} (hp : 0 < p) (s : Int) (k : Nat) (a b : Int) {i : Nat} (hi : i < k) : nth (dig (lin s p k a b) p k) i = (nth (dig a p k) i + s * nth (dig b p k) i) % p := by
 rw [lin, dig_num hp (lin_inR hp s k a b) (by simp), nth_lt (by simpa using hi), dig_nth _ _ hi, dig_nth _ _ hi]
 simp
theorem lin_range {p : Int} (hp : 0 < p) (s : Int) (k : Nat) (a b : Int) : 0 ≤ lin s p k a b ∧ lin s p k a b < p ^ k := by
 have h := num_bound hp (lin_inR hp s k a b)
 simpa [lin] using h
theorem dig_ext {p : Int} (hp : 0 < p) {k : Nat} {a b : Int} (ha : 0 ≤ a ∧ a < p ^ k) (hb : 0 ≤ b ∧ b < p ^ k) (h : ∀ i, i < k → Cg p (nth (dig a p k) i) (nth (dig b p k) i)) : a = b := by
 rw [← num_dig hp k ha.1 ha.2, ← num_dig hp k hb.1 hb.2]
 congr 1
 apply eq_of_nth (by rw [dig_len, dig_len])
 intro i hi
 have hi2 := hi
 rw [dig_len] at hi
 exact (h i hi).eq ((dig_inR hp a k).nth hi2) ((dig_inR hp b k).nth (by rw [dig_len]; exact hi))
theorem lin_cg {p : Int} (hp : 0 < p) (s : Int) (k : Nat) (a b : Int) {i : Nat} (hi : i < k) : Cg p (nth (dig (lin s p k a b) p k) i) (nth (dig a p k) i + s * nth (dig b p k) i) := by
 rw [lin_dig hp s k a b hi]; exact Cg.emod _ _
theorem lin_sign {p : Int} (k : Nat) (a b : Int) : lin (p - 1) p k a b = lin (-1) p k a b := by
 unfold lin
 congr 1
 apply List.map_congr_left
 intro i _
 exact Cg.emod_eq ⟨b / p ^ i % p, by grind⟩
theorem dig_zero_nth (p : Int) {k i : Nat} (h : i < k) : nth (dig 0 p k) i = 0 := by rw [dig_nth _ _ h]; simp
theorem lin_zero {p : Int} (hp : 0 < p) (s : Int) {k : Nat} {a : Int} (ha : 0 ≤ a ∧ a < p ^ k) : lin s p k a 0 = a := by
 refine dig_ext hp (lin_range hp ..) ha fun i hi => (lin_cg hp s k a 0 hi).trans ?_
 rw [dig_zero_nth p hi]
 exact Cg.of_eq (by simp)
def sm (f : Nat → Int) : Nat → Int
 | 0 => 0
 | n + 1 => sm f n + f n
theorem sm_congr {f g : Nat → Int} {n : Nat} (h : ∀ i, i < n → f i = g i) : sm f n = sm g n := by
 induction n with
 | zero => rfl
 | succ n ih => rw [sm, sm, ih (fun i hi => h i (by omega)), h n (by omega)]
theorem sm_cg {p : Int} {f g : Nat → Int} {n : Nat} (h : ∀ i, i < n → Cg p (f i) (g i)) : Cg p (sm f n) (sm g n) := by
 induction n with
 | zero => exact Cg.refl _ _
 | succ n ih => exact (ih (fun i hi => h i (by omega))).add (h n (by omega))
theorem sm_lin (s : Int) (f g : Nat → Int) (n : Nat) : sm (fun i => f i + s * g i) n = sm f n + s * sm g n := by
 induction n with
 | zero => simp [sm]
 | succ n ih => simp only [sm, ih]; grind
theorem sm_zero {f : Nat → Int} {n : Nat} (h : ∀ i, i < n → f i = 0) : sm f n = 0 := by
 induction n with
 | zero => rfl
 | succ n ih => rw [sm, ih (fun i hi => h i (by omega)), h n (by omega)]; rfl
theorem sm_more {f : Nat → Int} {a n : Nat} (han : a ≤ n) (h : ∀ i, a ≤ i → i < n → f i = 0) : sm f n = sm f a := by
 induction n with
 | zero => obtain rfl : a = 0 := by omega
           rfl
 | succ n ih =>
  by_cases e : a = n + 1
  · rw [e]
  · rw [sm, ih (by omega) (fun i h1 h2 => h i h1 (by omega)), h n (by omega) (by omega), Int.add_zero]
theorem sm_shift (f : Nat → Int) (n : Nat) : sm f (n + 1) = f 0 + sm (fun i => f (i + 1)) n := by
 induction n with
 | zero => simp [sm]
 | succ n ih => rw [sm, ih, sm]; grind
theorem sm_flip (f : Nat → Int) (n : Nat) : sm (fun i => f (n - 1 - i)) n = sm f n := by
 induction n generalizing f with
 | zero => rfl
 | succ n ih =>
  rw [sm_shift f, ← ih, sm]
  have : sm (fun i => f (n + 1 - 1 - i)) n = sm (fun i => f (n - 1 - i + 1)) n := sm_congr fun i hi => by congr 1; omega
  rw [this]
  simp [Int.add_comm]
def convTo (p : Int) (xs ys z : List Int) : Nat → List Int
 | 0 => z
 | i + 1 => setK (convTo p xs ys z i) ys (-(nth xs i)) p i ys.length
def zeros (m : Nat) : List Int := List.replicate m 0
theorem zeros_len (m : Nat) : (zeros m).length = m := by simp [zeros]
theorem zeros_nth (m i : Nat) : nth (zeros m) i = 0 := by
 simp only [nth, zeros, List.getD_eq_getElem?_getD, List.getElem?_replicate]
 split <;> rfl
theorem zeros_inR {p : Int} (hp : 0 < p) (m : Nat) : InR p (zeros m) := by
 intro x hx
 obtain rfl : x = 0 := by simpa [zeros] using (List.mem_replicate.1 hx).2
 omega
theorem convTo_len (p : Int) (xs ys z : List Int) (i : Nat) : (convTo p xs ys z i).length = z.length := by
 induction i with
 | zero => rfl
 | succ i ih => rw [convTo, setK_len, ih]
theorem convTo_inR {p : Int} (hp : 0 < p) (xs ys : List Int) {z : List Int} (hz : InR p z) (i : Nat) : InR p (convTo p xs ys z i) := by
 induction i with
 | zero => exact hz
 | succ i ih => exact setK_in hp ih _ _ _ _
theorem setK_get (xs ys : List Int) (c p : Int) (off k j : Nat) (h : off + k ≤ xs.length) :
    nth (setK xs ys c p off k) j = if off ≤ j ∧ j < off + k then (nth xs j - c * nth ys (j - off)) % p else nth xs j := by
 induction k with
 | zero => rw [if_neg (by omega)]; rfl
 | succ k ih =>
  have ih := ih (by omega)
  rw [setK]
  by_cases e : j = off + k
  · subst e
    rw [nth_set_same (by rw [setK_len]; omega), if_pos (by omega), Nat.add_sub_cancel_left]
  · rw [nth_set_ne (by omega), ih]
    by_cases g : off ≤ j ∧ j < off + k
    · rw [if_pos g, if_pos (by omega)]
    · rw [if_neg g, if_neg (by omega)]
def cv (x y : Nat → Int) (m : Nat) (n : Nat) : Int := sm (fun i => if i ≤ m then x i * y (m - i) else 0) n
theorem convTo_nth {p : Int} (hp : 0 < p) (xs ys : List Int) (L : Nat) (i : Nat) (hi : i + ys.length ≤ L + 1) (h0 : i ≤ L) (m : Nat) :
    nth (convTo p xs ys (zeros L) i) m = cv (nth xs) (nth ys) m i % p := by
 induction i with
 | zero => rw [convTo, zeros_nth]; simp [cv, sm]
 | succ i ih =>
  have ih := ih (by omega) (by omega)
  rw [convTo, setK_get _ _ _ _ _ _ _ (by rw [convTo_len, zeros_len]; omega), ih]
  show _ = (cv (nth xs) (nth ys) m i + (if i ≤ m then nth xs i * nth ys (m - i) else 0)) % p
  by_cases h1 : i ≤ m
  · rw [if_pos h1]
    by_cases h2 : m < i + ys.length
    · rw [if_pos ⟨h1, h2⟩]
      refine Cg.emod_eq (((Cg.emod p (cv (nth xs) (nth ys) m i)).sub (Cg.refl p _)).trans (Cg.of_eq ?_))
      grind
    · rw [if_neg (by omega), nth_big (xs := ys) (by omega)]; simp
  · rw [if_neg h1, if_neg (by omega)]; simp
theorem cv_full {x y : Nat → Int} {n : Nat} (hx : ∀ i, n ≤ i → x i = 0) (m : Nat) : cv x y m n = sm (fun i => x i * y (m - i)) (m + 1) := by
 unfold cv
 rcases Nat.le_total n (m + 1) with h | h
 · rw [sm_more h (fun i h1 h2 => by rw [hx i h1, Int.zero_mul])]
   exact sm_congr fun i hi => if_pos (by omega)
 · rw [sm_more h (fun i h1 h2 => if_neg (by omega))]
   exact sm_congr fun i hi => if_pos (by omega)
theorem cv_comm {x y : Nat → Int} {n : Nat} (hx : ∀ i, n ≤ i → x i = 0) (hy : ∀ i, n ≤ i → y i = 0) (m : Nat) : cv x y m n = cv y x m n := by
 rw [cv_full hx, cv_full hy, ← sm_flip (fun i => y i * x (m - i)) (m + 1)]
 apply sm_congr
 intro i hi
 show _ = y (m + 1 - 1 - i) * x (m - (m + 1 - 1 - i))
 rw [Int.mul_comm, show m + 1 - 1 - i = m - i by omega, show m - (m - i) = i by omega]
theorem cv_cg {p : Int} {x y x' y' : Nat → Int} {m n : Nat} (hx : ∀ i, Cg p (x i) (x' i)) (hy : ∀ i, Cg p (y i) (y' i)) : Cg p (cv x y m n) (cv x' y' m n) := by
 refine sm_cg fun i _ => ?_
 split
 · exact (hx _).mul (hy _)
 · exact Cg.refl _ _
theorem cv_lin (s : Int) (x y z : Nat → Int) (m n : Nat) : cv x (fun i => y i + s * z i) m n = cv x y m n + s * cv x z m n := by
 unfold cv
 rw [← sm_lin]
 apply sm_congr
 intro i _
 split
 · grind
 · simp
theorem remTo_lin {p : Int} (s : Int) (ys xs us vs : List Int) (hu : us.length = xs.length) (hv : vs.length = xs.length) (hy : 1 ≤ ys.length)
    (h : ∀ j, Cg p (nth xs j) (nth us j + s * nth vs j)) (t : Nat) (ht : t ≤ xs.length - (ys.length - 1)) : ∀ j, Cg p (nth (remTo p ys xs t) j) (nth (remTo p ys us t) j + s * nth (remTo p ys vs t) j) := by
 induction t with
 | zero => exact h
 | succ t ih =>
  have ih := ih (by omega)
  intro j
  rw [remTo, remTo, remTo, hu, hv, setK_get _ _ _ _ _ _ _ (by rw [remTo_len]; omega), setK_get _ _ _ _ _ _ _ (by rw [remTo_len, hu]; omega), setK_get _ _ _ _ _ _ _ (by rw [remTo_len, hv]; omega)]
  split
  · refine (Cg.emod _ _).trans (Cg.trans ?_ ((Cg.emod _ _).add ((Cg.refl p s).mul (Cg.emod _ _))).symm)
    refine ((ih j).sub ((ih _).mul (Cg.refl p _))).trans (Cg.of_eq ?_)
    grind
  · exact ih j
theorem take_nth_lt {xs : List Int} {k j : Nat} (h : j < k) : nth (xs.take k) j = nth xs j := by
 simp [nth, List.getD_eq_getElem?_getD, h]
theorem prem_lin {p : Int} (s : Int) (ys xs us vs : List Int) (hu : us.length = xs.length) (hv : vs.length = xs.length) (hy : 1 ≤ ys.length)
    (h : ∀ j, Cg p (nth xs j) (nth us j + s * nth vs j)) (j : Nat) : Cg p (nth (prem p ys xs) j) (nth (prem p ys us) j + s * nth (prem p ys vs) j) := by
 by_cases hj : j < ys.length - 1
 · rw [prem, prem, prem, take_nth_lt hj, take_nth_lt hj, take_nth_lt hj, hu, hv]
   exact remTo_lin s ys xs us vs hu hv hy h _ (Nat.le_refl _) j
 · rw [nth_big (by rw [prem_len]; omega), nth_big (by rw [prem_len]; omega), nth_big (by rw [prem_len]; omega)]
   exact Cg.of_eq (by simp)
def mulD (p : Int) (poly xs ys : List Int) (L : Nat) : List Int := prem p poly (convTo p xs ys (zeros L) xs.length)
def mulF (p : Int) (k : Nat) (poly : List Int) (a b : Int) : Int := num p (mulD p poly (dig a p k) (dig b p k) (2 * k))
section
variable {p : Int} {k : Nat} {poly : List Int}
theorem mulD_len (hl : poly.length = k + 1) {xs ys : List Int} {L : Nat} (hL : k ≤ L) : (mulD p poly xs ys L).length = k := by
 rw [mulD, prem_len, convTo_len, zeros_len]; omega
theorem mulD_inR (hp : 0 < p) (xs ys : List Int) (L : Nat) : InR p (mulD p poly xs ys L) := prem_in hp (convTo_inR hp _ _ (zeros_inR hp _) _) _
theorem mulF_range (hp : 0 < p) (hl : poly.length = k + 1) (a b : Int) : 0 ≤ mulF p k poly a b ∧ mulF p k poly a b < p ^ k := by
 have h := num_bound hp (mulD_inR (poly := poly) hp (dig a p k) (dig b p k) (2 * k))
 rwa [mulD_len hl (by omega)] at h
theorem mulF_dig (hp : 0 < p) (hl : poly.length = k + 1) (a b : Int) : dig (mulF p k poly a b) p k = mulD p poly (dig a p k) (dig b p k) (2 * k) :=
 dig_num hp (mulD_inR hp _ _ _) (mulD_len hl (by omega))
theorem mulF_comm (hp : 0 < p) (a b : Int) : mulF p k poly a b = mulF p k poly b a := by
 unfold mulF mulD
 congr 2
 rw [dig_len, dig_len]
 apply eq_of_nth (by rw [convTo_len, convTo_len])
 intro m hm
 rw [convTo_nth hp _ _ _ _ (by rw [dig_len]; omega) (by omega), convTo_nth hp _ _ _ _ (by rw [dig_len]; omega) (by omega)]
 rw [cv_comm (fun i hi => nth_big (by rw [dig_len]; exact hi)) (fun i hi => nth_big (by rw [dig_len]; exact hi))]
theorem lin_cg_all (hp : 0 < p) (s a b : Int) (i : Nat) : Cg p (nth (dig (lin s p k a b) p k) i) (nth (dig a p k) i + s * nth (dig b p k) i) := by
 by_cases hi : i < k
 · exact lin_cg hp s k a b hi
 · rw [nth_big (by rw [dig_len]; omega), nth_big (by rw [dig_len]; omega), nth_big (by rw [dig_len]; omega)]
   exact Cg.of_eq (by simp)
theorem mulF_lin (hp : 0 < p) (hl : poly.length = k + 1) (s a b c : Int) : mulF p k poly a (lin s p k b c) = lin s p k (mulF p k poly a b) (mulF p k poly a c) := by
 refine dig_ext hp (mulF_range hp hl _ _) (lin_range hp ..) fun i hi => ?_
 refine Cg.trans ?_ (lin_cg hp s k _ _ hi).symm
 rw [mulF_dig hp hl, mulF_dig hp hl, mulF_dig hp hl]
 refine prem_lin s poly _ _ _ (by rw [convTo_len, convTo_len]) (by rw [convTo_len, convTo_len]) (by omega) (fun j => ?_) i
 rw [dig_len, convTo_nth hp _ _ _ _ (by rw [dig_len]; omega) (by omega), convTo_nth hp _ _ _ _ (by rw [dig_len]; omega) (by omega), convTo_nth hp _ _ _ _ (by rw [dig_len]; omega) (by omega)]
 refine (Cg.emod _ _).trans (Cg.trans ?_ ((Cg.emod _ _).add ((Cg.refl p s).mul (Cg.emod _ _))).symm)
 refine (cv_cg (fun i => Cg.refl _ _) (fun i => lin_cg_all hp s b c i)).trans (Cg.of_eq ?_)
 exact cv_lin s _ _ _ _ _
theorem mulF_zero (hp : 0 < p) (hl : poly.length = k + 1) (a : Int) : mulF p k poly a 0 = 0 := by
 have h0 : (0 : Int) < p ^ k := Int.pow_pos hp
 have h := mulF_lin hp hl (-1) a 0 0
 rw [lin_zero hp (-1) ⟨Int.le_refl _, h0⟩] at h
 refine dig_ext hp (mulF_range hp hl _ _) ⟨Int.le_refl _, h0⟩ fun i hi => ?_
 rw [h]
 refine (lin_cg hp _ _ _ _ hi).trans ?_
 rw [dig_zero_nth p hi]
 exact Cg.of_eq (by grind)
theorem zero_mulF (hp : 0 < p) (hl : poly.length = k + 1) (a : Int) : mulF p k poly 0 a = 0 := by rw [mulF_comm hp, mulF_zero hp hl]
theorem add_neg_mul (hp : 0 < p) (hl : poly.length = k + 1) (a c w : Int) : lin 1 p k a (mulF p k poly (lin (-1) p k 0 c) w) = lin (-1) p k a (mulF p k poly c w) := by
 rw [mulF_comm hp (lin _ _ _ _ _), mulF_lin hp hl, mulF_zero hp hl, mulF_comm hp w c]
 refine dig_ext hp (lin_range hp ..) (lin_range hp ..) fun i hi => ?_
 refine ((lin_cg hp _ _ _ _ hi).trans ((Cg.refl p _).add ((Cg.refl p _).mul (lin_cg hp _ _ _ _ hi)))).trans (Cg.trans ?_ (lin_cg hp _ _ _ _ hi).symm)
 rw [dig_zero_nth p hi]
 exact Cg.of_eq (by grind)
end
theorem inR_nth {p : Int} (hp : 0 < p) {xs : List Int} (h : InR p xs) (j : Nat) : 0 ≤ nth xs j ∧ nth xs j < p := by
 by_cases hj : j < xs.length
 · exact h.nth hj
 · rw [nth_big (by omega)]; omega
theorem remTo_succ (p : Int) (ys xs : List Int) (t : Nat) : remTo p ys xs (t + 1) = setK (remTo p ys xs t) ys (nth (remTo p ys xs t) (xs.length - 1 - t)) p (xs.length - 1 - t - (ys.length - 1)) ys.length := rfl
theorem remTo_pad {p : Int} (hp : 0 < p) (ys xs us : List Int) (hl : xs.length = us.length + 1) (hr : InR p xs) (hy : 1 ≤ ys.length) (hyl : ys.length - 1 ≤ us.length)
    (h : ∀ j, nth xs j = nth us j) (t : Nat) (ht : t ≤ us.length - (ys.length - 1)) : ∀ j, nth (remTo p ys xs (t + 1)) j = nth (remTo p ys us t) j := by
 induction t with
 | zero =>
  intro j
  rw [remTo, remTo, remTo, setK_get _ _ _ _ _ _ _ (by omega), h (xs.length - 1 - 0), nth_big (xs := us) (by omega)]
  split
  · rw [Int.zero_mul, Int.sub_zero, h j, ← h j, Int.emod_eq_of_lt (inR_nth hp hr j).1 (inR_nth hp hr j).2]
  · exact h j
 | succ t ih =>
  have ih := ih (by omega)
  intro j
  rw [remTo_succ p ys xs (t + 1), remTo_succ p ys us t, setK_get _ _ _ _ _ _ _ (by rw [remTo_len]; omega), setK_get _ _ _ _ _ _ _ (by rw [remTo_len]; omega), ih j, hl, show us.length + 1 - 1 - (t + 1) = us.length - 1 - t by omega, ih]
theorem mulD_pad {p : Int} (hp : 0 < p) {k : Nat} {poly xs ys : List Int} (hk : 1 ≤ k) (hl : poly.length = k + 1) (hx : xs.length = k) (hy : ys.length = k) : mulD p poly xs ys (2 * k - 1) = mulD p poly xs ys (2 * k) := by
 have hz : ∀ L, (convTo p xs ys (zeros L) xs.length).length = L := fun L => by rw [convTo_len, zeros_len]
 apply eq_of_nth (by rw [mulD_len hl (by omega), mulD_len hl (by omega)])
 intro i hi
 rw [mulD_len hl (by omega)] at hi
 unfold mulD prem
 rw [take_nth_lt (by omega), take_nth_lt (by omega), hz, hz, show 2 * k - (poly.length - 1) = (2 * k - 1 - (poly.length - 1)) + 1 by omega]
 refine (remTo_pad hp poly _ _ (by rw [hz, hz]; omega) (convTo_inR hp _ _ (zeros_inR hp _) _) (by omega) (by rw [hz]; omega) (fun j => ?_) _ (by rw [hz]; exact Nat.le_refl _) i).symm
 rw [convTo_nth hp _ _ _ _ (by omega) (by omega), convTo_nth hp _ _ _ _ (by omega) (by omega)]
end Go.Proofs.Ytgfcbmflnldicaa
namespace Go.Proofs.Ytgfcbmflnldicaa
open Go.RowKit
theorem l00Own_any (a : Option Addr) (c : Nat) (xs : List Int) (w : World) (hx : Rd w a xs) :
    Calls Try.prog 81 #[.slice a xs.length c] w fun e w' => ∃ v, e = .returned v ∧ Own w' w.heap.size v xs ∧ Below w.heap.size w w' := by
 have hxl := hx.len
 go_enter Try.func81, Try.ntmps81
 go_wp2_with (at_builtin; refine wpList_append_ints rfl (.tmp 3) (.tmp 4) rfl w.heap.size _ [] xs rfl (Own.empty w (Nat.le_refl _)) a xs.length c rfl rfl (hx.alloc _) (by simpa using hxl) (by simp) ?_; intro v1 w1 hown1 hg1 _)
 go_ret
 exact ⟨_, rfl, by simpa using hown1, Below.step ((Below.refl _ _).alloc (Nat.le_refl _) _) hg1 (Own.empty w (Nat.le_refl _)) (Nat.le_refl _) (by simp)⟩
theorem l03Digits_any (n p : Int) (k : Nat) (w : World) (hn : 0 ≤ n) (hn2 : n ≤ 9223372036854775807) (hp : 1 ≤ p) (hp2 : p ≤ 1000000) (hk : k ≤ 1000000) :
    Calls Try.prog 66 #[.int .i64 n, .int .i64 p, .int .i64 k] w fun e w' => ∃ v, e = .returned v ∧ Own w' w.heap.size v (dig n p k) ∧ Below w.heap.size w w' := by
 go_enter Try.func66, Try.ntmps66
 go_wp2
 go_loopw [0, 2, 7] (fun nv kv v wr => ∃ (j r : Nat) (m : Int), nv = .int .i64 m ∧ kv = .int .i64 (r : Int) ∧ Hid (j + r = k) ∧ r ≤ 1000000 ∧ j ≤ 1000000 ∧ 0 ≤ m ∧ m ≤ 9223372036854775807 ∧ Hid (m = n / p ^ j) ∧ Own wr w.heap.size v (dig n p j) ∧ Below w.heap.size w wr) (fun _ kv _ _ => (intOf kv).toNat)
 case atStart => exact ⟨0, k, n, rfl, rfl, by simp [Hid], hk, by omega, hn, hn2, by simp [Hid], Own.empty w (Nat.le_refl _), (Below.refl _ _).alloc (Nat.le_refl _) _⟩
 case round =>
  obtain ⟨j, r, m, rfl, rfl, hjr, hr, hj, hm0, hm1, hm, ho, hb⟩ := hrel
  have hsz := hb.size
  by_cases hr0 : 0 < r
  · have e1 := Int.emod_nonneg m (show p ≠ 0 by omega)
    have e2 := Int.emod_lt_of_pos m (show 0 < p by omega)
    have e3 := Int.ediv_nonneg hm0 (show 0 ≤ p by omega)
    have e4 : m / p ≤ m := Int.ediv_le_self _ hm0
    have hdl := dig_len n p j
    go_wp2_with (at_builtin; refine wpList_append_ints rfl (.tmp 13) (.tmp 17) rfl w.heap.size u7 (dig n p j) [m % p] rfl (ho.alloc _) _ 1 1 rfl rfl (Rd.one wr (m % p) _) (by rw [hdl]; simp; omega) (by simp; omega) ?_; intro v1 w1 hown1 hg1 _)
    go_roundw
    case rel => exact ⟨j + 1, r - 1, m / p, rfl, by go_num, by have := hjr.out; show _ = _; omega, by omega, by have := hjr.out; omega, e3, by omega, by show _ = _; rw [hm.out, div_pow_succ n p (by omega)], by rw [dig_succ, ← hm.out]; exact hown1, Below.step (hb.alloc hsz _) hg1 (ho.alloc _) (Nat.le_refl _) (by simp; omega)⟩
    case measure => first | (simp [intOf]; done) | (simp [intOf]; omega)
  · go_wp2
    go_ret
    exact ⟨_, rfl, by have := hjr.out; obtain rfl : j = k := by omega
                      exact ho, hb⟩
theorem l03Number_any (a : Option Addr) (c : Nat) (xs : List Int) (p : Int) (w : World) (hx : Rd w a xs) (hp : 1 ≤ p) (hp2 : p ≤ 1000000) (hr : InR p xs) (hq : p ^ xs.length ≤ 1099511627776) :
    Calls Try.prog 78 #[.slice a xs.length c, .int .i64 p] w fun e w' => e = .returned (.int .i64 (num p xs)) ∧ w = w' := by
 have hxl := hx.len
 have bnd : ∀ m, m < xs.length → 0 ≤ num p (xs.drop (m + 1)) * p ∧ num p (xs.drop (m + 1)) * p ≤ 1099511627776 ∧ 0 ≤ nth xs m ∧ nth xs m < p ∧ num p (xs.drop (m + 1)) * p + nth xs m ≤ 1099511627776 := by
  intro m hm
  have h1 := num_bound (p := p) (by omega) (xs := xs.drop m) (fun x hx => hr x (List.mem_of_mem_drop hx))
  have h2 := num_bound (p := p) (by omega) (xs := xs.drop (m + 1)) (fun x hx => hr x (List.mem_of_mem_drop hx))
  rw [num_drop p hm] at h1
  have h3 : p ^ (xs.drop m).length ≤ p ^ xs.length := pow_mono hp (by simp)
  have h4 := hr.nth hm
  have h5 : 0 ≤ num p (xs.drop (m + 1)) * p := Int.mul_nonneg h2.1 (by omega)
  exact ⟨h5, by omega, h4.1, h4.2, by omega⟩
 have BN := hide bnd
 clear bnd hq
 go_enter Try.func78, Try.ntmps78
 go_wp2
 go_loop [5, 6] (fun o i => ∃ (j : Nat) (x y : Int), i = .int .i64 x ∧ o = .int .i64 y ∧ Hid (x = j - 1) ∧ j ≤ xs.length ∧ -1 ≤ x ∧ x < 1073741824 ∧ Hid (y = num p (xs.drop j)) ∧ 0 ≤ y ∧ y ≤ 1099511627776) (fun _ i => (intOf i + 1).toNat)
 case atStart => exact ⟨xs.length, _, 0, rfl, rfl, by simp [Hid], Nat.le_refl _, by omega, by omega, by simp [Hid, num], by omega, by omega⟩
 case round =>
  obtain ⟨j, x, y, rfl, rfl, hxj, hj, hx0, hx1, hy, hy0, hy1⟩ := hrel
  by_cases h0 : 0 ≤ x
  · obtain ⟨m, rfl⟩ := Int.eq_ofNat_of_zero_le h0
    obtain rfl : j = m + 1 := by have := hxj.out; omega
    obtain ⟨b1, b2, b3, b4, b5⟩ := (unhide BN) m (by omega)
    rw [← hy.out] at b1 b2 b5
    obtain ⟨g, o, rfl, _, hcx⟩ := hx.at_ (by omega)
    have hc := hcx m (by omega)
    clear hcx hx
    go_wp2
    go_round
    case rel => exact ⟨m, _, _, rfl, rfl, rfl, by omega, by omega, by omega, by have := hy.out; subst this; exact (num_drop p (by omega)).symm, by omega, by omega⟩
    case measure => first | (simp [intOf]; done) | (simp [intOf]; omega)
  · go_wp2
    go_ret
    exact ⟨ret_int (by have := hxj.out; obtain rfl : j = 0 := by omega
                       rw [hy.out]; rfl), rfl⟩
theorem numberOf_any (a : Option Addr) (c : Nat) (xs : List Int) (p : Int) (w : World) (hx : Rd w a xs) (hp : 1 ≤ p) (hp2 : p ≤ 1000000) (hr : InR p xs) (hq : p ^ xs.length ≤ 1099511627776) :
    Calls Try.prog 72 #[.slice a xs.length c, .int .i64 p] w fun e w' => e = .returned (.int .i64 (num p xs)) ∧ w = w' := by
 have hxl := hx.len
 have bnd : ∀ m, m < xs.length → 0 ≤ num p (xs.drop (m + 1)) * p ∧ num p (xs.drop (m + 1)) * p ≤ 1099511627776 ∧ 0 ≤ nth xs m ∧ nth xs m < p ∧ num p (xs.drop (m + 1)) * p + nth xs m ≤ 1099511627776 := by
  intro m hm
  have h1 := num_bound (p := p) (by omega) (xs := xs.drop m) (fun x hx => hr x (List.mem_of_mem_drop hx))
  have h2 := num_bound (p := p) (by omega) (xs := xs.drop (m + 1)) (fun x hx => hr x (List.mem_of_mem_drop hx))
  rw [num_drop p hm] at h1
  have h3 : p ^ (xs.drop m).length ≤ p ^ xs.length := pow_mono hp (by simp)
  have h4 := hr.nth hm
  have h5 : 0 ≤ num p (xs.drop (m + 1)) * p := Int.mul_nonneg h2.1 (by omega)
  exact ⟨h5, by omega, h4.1, h4.2, by omega⟩
 have BN := hide bnd
 clear bnd hq
 go_enter Try.func72, Try.ntmps72
 go_wp2
 go_loop [5, 6] (fun o i => ∃ (j : Nat) (x y : Int), i = .int .i64 x ∧ o = .int .i64 y ∧ Hid (x = j - 1) ∧ j ≤ xs.length ∧ -1 ≤ x ∧ x < 1073741824 ∧ Hid (y = num p (xs.drop j)) ∧ 0 ≤ y ∧ y ≤ 1099511627776) (fun _ i => (intOf i + 1).toNat)
 case atStart => exact ⟨xs.length, _, 0, rfl, rfl, by simp [Hid], Nat.le_refl _, by omega, by omega, by simp [Hid, num], by omega, by omega⟩
 case round =>
  obtain ⟨j, x, y, rfl, rfl, hxj, hj, hx0, hx1, hy, hy0, hy1⟩ := hrel
  by_cases h0 : 0 ≤ x
  · obtain ⟨m, rfl⟩ := Int.eq_ofNat_of_zero_le h0
    obtain rfl : j = m + 1 := by have := hxj.out; omega
    obtain ⟨b1, b2, b3, b4, b5⟩ := (unhide BN) m (by omega)
    rw [← hy.out] at b1 b2 b5
    obtain ⟨g, o, rfl, _, hcx⟩ := hx.at_ (by omega)
    have hc := hcx m (by omega)
    clear hcx hx
    go_wp2
    go_round
    case rel => exact ⟨m, _, _, rfl, rfl, rfl, by omega, by omega, by omega, by have := hy.out; subst this; exact (num_drop p (by omega)).symm, by omega, by omega⟩
    case measure => first | (simp [intOf]; done) | (simp [intOf]; omega)
  · go_wp2
    go_ret
    exact ⟨ret_int (by have := hxj.out; obtain rfl : j = 0 := by omega
                       rw [hy.out]; rfl), rfl⟩
theorem l03Power_any (p : Int) (k : Nat) (w : World) (hp : 1 ≤ p) (hp2 : p ≤ 1000000) (hk : k ≤ 1000000) (hq : p ^ k ≤ 1099511627776) :
    Calls Try.prog 68 #[.int .i64 p, .int .i64 k] w fun e w' => e = .returned (.int .i64 (p ^ k)) ∧ w = w' := by
 have bnd : ∀ j, j < k → 0 ≤ p ^ j * p ∧ p ^ j * p ≤ 1099511627776 := by
  intro j hj
  have h1 : p ^ (j + 1) ≤ p ^ k := pow_mono hp hj
  rw [Int.pow_succ] at h1
  exact ⟨Int.mul_nonneg (Int.pow_nonneg (by omega)) (by omega), by omega⟩
 have BN := hide bnd
 clear bnd hq
 go_enter Try.func68, Try.ntmps68
 go_wp2
 go_loop [1, 5] (fun kv o => ∃ (j r : Nat) (y : Int), kv = .int .i64 (r : Int) ∧ o = .int .i64 y ∧ Hid (j + r = k) ∧ r ≤ 1000000 ∧ Hid (y = p ^ j)) (fun kv _ => (intOf kv).toNat)
 case atStart => exact ⟨0, k, 1, rfl, rfl, by simp [Hid], hk, by simp [Hid]⟩
 case round =>
  obtain ⟨j, r, y, rfl, rfl, hjr, hr, hy⟩ := hrel
  by_cases h0 : 0 < r
  · obtain ⟨b1, b2⟩ := (unhide BN) j (by have := hjr.out; omega)
    rw [← hy.out] at b1 b2
    go_wp2
    go_round
    case rel => exact ⟨j + 1, r - 1, _, by go_num, rfl, by have := hjr.out; show _ = _; omega, by omega, by show _ = _; rw [hy.out, Int.pow_succ]⟩
    case measure => first | (simp [intOf]; done) | (simp [intOf]; omega)
  · go_wp2
    go_ret
    exact ⟨ret_int (by have := hjr.out; obtain rfl : j = k := by omega
                       exact hy.out), rfl⟩
end Go.Proofs.Ytgfcbmflnldicaa
namespace Go.Proofs.Ytgfcbmflnldicaa
open Go.RowKit
theorem pp_table : ∀ q : Nat, q < 65 → ppOf (factors q) = splitN q ∨ q < 2 := by decide +kernel
def sizeOk (q : Nat) : Bool :=
 (splitN q).1 == 0 || (decide (2 ≤ (splitN q).1) && decide ((splitN q).1 ≤ 64) && decide (1 ≤ (splitN q).2) && decide ((splitN q).2 ≤ 6) && (splitN q).1 ^ (splitN q).2.toNat == (q : Int) &&
  (List.range 64).any fun (n : Nat) => irr (dig n (splitN q).1 (splitN q).2.toNat ++ [1]) (splitN q).1)
theorem size_table : ∀ q : Nat, q < 65 → 2 ≤ q → sizeOk q = true := by decide +kernel
def isField (q : Int) : Bool := decide (0 < (split q).1)
end Go.Proofs.Ytgfcbmflnldicaa
namespace Go.Proofs.Ytgfcbmflnldicaa
open Go.RowKit
theorem results_cell_tmp_row {P : Program} {fn : Func} {p u : Tmp} {ty : TypeId} (h : fn.results = #[.cell p ty, .tmp u]) (tmps : Array Value) (w : World) (g : Nat) (t : TypeId) (cs : Array Value) (d : TypeDesc)
    (hp : tmps.getD p undef = .pointer (some ⟨g, 0, none⟩)) (hg : Blk w g t cs)
    (hu : P.underlying ty = some d) (hd : (match d with | .struct _ | .array _ _ => true | _ => false) = true) (hi : (P.info? ty).map (·.size) = some cs.size) :
    (results fn tmps).run P w = .ok (.tuple #[.agg cs, tmps.getD u undef]) w := by
 rw [results_cell_tmp h, hp]
 simp [asAddr, run_loadVar_row w g t ty cs (0, 0) d hg hu hd hi, Result.andThen]
def polyAt (p : Int) (k n : Nat) : List Int := dig n p k ++ [1]
def leastN (p : Int) (k : Nat) : Nat := ((List.range 64).find? (fun n => irr (polyAt p k n) p)).getD 0
theorem polyAt_len (p : Int) (k n : Nat) : (polyAt p k n).length = k + 1 := by rw [polyAt, List.length_append, dig_len]; rfl
structure SizeOk (q p : Int) (k : Nat) : Prop where
 lo : 2 ≤ p
 hi : p ≤ 64
 k1 : 1 ≤ k
 k6 : k ≤ 6
 pow : p ^ k = q
 some_ : ∃ n : Nat, n < 64 ∧ irr (polyAt p k n) p = true
theorem isField_size {q : Int} (h : isField q = true) : 2 ≤ q ∧ q ≤ 64 ∧ split q = ppI q ∧ ∃ k : Nat, (split q).2 = (k : Int) ∧ SizeOk q (split q).1 k := by
 have hs := h
 rw [isField, decide_eq_true_eq, split] at h
 by_cases hb : inB q 2 64 = true
 · obtain ⟨h2, h64⟩ := inB_true.1 hb
   obtain ⟨n, rfl⟩ := Int.eq_ofNat_of_zero_le (show 0 ≤ q by omega)
   rw [if_pos hb, Int.toNat_natCast] at h
   have e : split (n : Int) = splitN n := by rw [split, if_pos hb, Int.toNat_natCast]
   have t1 := pp_table n (by omega)
   have t2 := size_table n (by omega) (by omega)
   have ef : ppI (n : Int) = splitN n := by
    rw [ppI, facs, if_pos (inB_yes (by omega) (by omega)), Int.toNat_natCast]
    rcases t1 with t1 | t1
    · exact t1
    · omega
   rw [e, ef]
   refine ⟨h2, h64, rfl, (splitN n).2.toNat, ?_⟩
   simp only [sizeOk, Bool.or_eq_true, Bool.and_eq_true, decide_eq_true_eq, beq_iff_eq, List.any_eq_true, List.mem_range] at t2
   rcases t2 with t2 | ⟨⟨⟨⟨⟨a1, a2⟩, a3⟩, a4⟩, a5⟩, m, a6, a7⟩
   · omega
   · exact ⟨by omega, a1, a2, by omega, by omega, a5, m, a6, a7⟩
 · rw [if_neg hb] at h
   simp at h
theorem leastN_spec {q p : Int} {k : Nat} (h : SizeOk q p k) : leastN p k < 64 ∧ irr (polyAt p k (leastN p k)) p = true ∧ ∀ m, m < leastN p k → irr (polyAt p k m) p = false := by
 obtain ⟨n, hn, hi⟩ := h.some_
 unfold leastN
 cases hf : (List.range 64).find? (fun n => irr (polyAt p k n) p) with
 | none =>
  rw [List.find?_eq_none] at hf
  exact absurd hi (hf n (List.mem_range.2 hn))
 | some m =>
  rw [Option.getD_some]
  have h1 := List.find?_some hf
  have h2 := List.mem_of_find?_eq_some hf
  rw [List.mem_range] at h2
  refine ⟨h2, h1, fun j hj => ?_⟩
  rw [List.find?_range_eq_some] at hf
  have := hf.2.2 j hj
  simpa using this
end Go.Proofs.Ytgfcbmflnldicaa
namespace Go.Proofs.Ytgfcbmflnldicaa
open Go.RowKit
theorem polyAt_in {p : Int} (hp : 2 ≤ p) (k n : Nat) : InR p (polyAt p k n) := InR.app (dig_range (by omega) k) hp
end Go.Proofs.Ytgfcbmflnldicaa
namespace Go.Proofs.Ytgfcbmflnldicaa
open Go.RowKit
theorem OwnSH.belw {w w' : World} {B hi : Nat} {v : Value} {xss : List (List Int)} (h : OwnSH w B hi v xss) (hb : Below w.heap.size w w') (hh : hi ≤ w.heap.size) : OwnSH w' B hi v xss := h.kp (Kp.below hb hh)
theorem copyLists_any (a : Option Addr) (c : Nat) (xss : List (List Int)) (w : World) (hx : RdS w a xss) :
    Calls Try.prog 25 #[.slice a xss.length c] w fun e w' => ∃ v, e = .returned v ∧ OwnS w' w.heap.size v xss ∧ Below w.heap.size w w' := by
 have hxl := hx.len
 go_enter Try.func25, Try.ntmps25
 go_wp2
 go_loopw [3, 8] (fun v iv wr => ∃ (k : Nat), iv = .int .i64 k ∧ k ≤ xss.length ∧ Hid (OwnS wr w.heap.size v (xss.take k)) ∧ Below w.heap.size w wr) (fun _ iv _ => xss.length - (intOf iv).toNat)
 case atStart => exact ⟨0, rfl, Nat.zero_le _, OwnS.nil _ _, Below.refl _ _⟩
 case round =>
  obtain ⟨k, rfl, hk, ho, hb⟩ := hrel
  have hsz := hb.size
  by_cases hkl : k < xss.length
  · obtain ⟨b1, o1, rfl, _, hc⟩ := (hx.below hb).at_ (by omega)
    obtain ⟨ai, ci, h1, hr⟩ := hc k hkl
    have htk := take_nthL hkl
    have htl : (xss.take k).length = k := by rw [List.length_take]; omega
    generalize nthL xss k = row at h1 hr htk
    have HTK := Lib.hid htk
    have HTL := Lib.hid htl
    clear hc htk htl
    go_wp2_with fail
    refine (clone_any ai ci row wr hr).mono ?_
    rintro e w1 ⟨v1, rfl, o1, b1⟩
    obtain ⟨a1, c1, rfl, _, _⟩ := o1.form
    have hH := ho.out.toH.belw b1 (Nat.le_refl _)
    have hs1 := b1.size
    have hb1 := hb.trans (b1.mono hsz)
    go_wp2_with (at_builtin; refine wpList_append_row rfl (.tmp 12) (.tmp 15) rfl (v := u3) rfl (hH.belw ((Below.refl _ _).alloc (Nat.le_refl _) _) hs1) _ rfl ((Blk.new w1 24 #[.slice a1 row.length c1] rfl).cell 0) (o1.alloc _) hsz (by simp; omega) (by rw [HTL.out]; omega) ?_; intro v2 w2 o2 g2 _)
    go_roundw
    case rel =>
     refine ⟨k + 1, by go_num, by omega, ?_, Below.stepS (hb1.alloc (by omega) _) g2 (hH.belw ((Below.refl _ _).alloc (Nat.le_refl _) _) hs1).own (Nat.le_refl _) (by simp; omega)⟩
     show OwnS _ _ _ _
     rw [HTK.out]
     exact o2
    case measure => simp only [intOf]; omega
  · have hke : k = xss.length := by omega
    have HE := Lib.hid hke
    clear hke
    go_wp2
    go_ret
    exact ⟨_, rfl, by have o := ho.out; rw [HE.out, List.take_length] at o; exact o, hb⟩
end Go.Proofs.Ytgfcbmflnldicaa
namespace Go.Proofs.Ytgfcbmflnldicaa
open Go.RowKit
def OwnSQ (w : World) (B : Nat) (v : Value) (xss : List (List Int)) (Q : Value → Prop) : Prop :=
 xss.length ≤ 1073741824 ∧ ∃ vs : List Value, w.ownsRow B 24 1 v xss.length vs ∧ Inner w B vs xss ∧ ∀ (i : Nat) (x : Value), vs[i]? = some x → Q x
section
variable {w w' : World} {B hi g n c : Nat} {v : Value} {yss : List (List Int)} {Q Q' : Value → Prop}
theorem OwnSQ.own (h : OwnSQ w B v yss Q) : OwnS w B v yss := by
 obtain ⟨hl, vs, hr, hin, _⟩ := h
 exact ⟨hl, vs, hr, hin⟩
theorem OwnSQ.imp (h : OwnSQ w B v yss Q) (hq : ∀ x, (∀ k, x.ownBlock = some k → k < w.heap.size) → Q x → Q' x) : OwnSQ w B v yss Q' := by
 obtain ⟨hl, vs, hr, hin, hQ⟩ := h
 exact ⟨hl, vs, hr, hin, fun i x hx => hq x (fun k hk => ((hin.2.1 i x hx).lt k hk).2) (hQ i x hx)⟩
theorem OwnS.toQ (h : OwnS w B v yss) (hq : ∀ x, (∀ k, x.ownBlock = some k → B ≤ k ∧ k < w.heap.size) → Q x) : OwnSQ w B v yss Q := by
 obtain ⟨hl, vs, hr, hin⟩ := h
 exact ⟨hl, vs, hr, hin, fun i x hx => hq x (fun k hk => (hin.2.1 i x hx).lt k hk)⟩
theorem OwnSQ.below (h : OwnSQ w B v yss Q) (hb : Below w.heap.size w w') : OwnSQ w' B v yss Q := by
 obtain ⟨hl, vs, hr, hin, hQ⟩ := h
 exact ⟨hl, vs, ownsRow_below hr hb (Nat.le_refl _), hin.below hb (Nat.le_refl _), hQ⟩
theorem OwnSQ.grow (h : OwnSQ w B v yss Q) {u : Value} {B' : Nat} {us : List Int} (hu : Own w B' u us) (hg : w.grownBy w' u.ownBlock) (hq : ∀ x, Q x → ∀ k, x.ownBlock = some k → u.ownBlock ≠ some k) : OwnSQ w' B v yss Q := by
 obtain ⟨hl, vs, hr, hin, hQ⟩ := h
 refine ⟨hl, vs, hr.kept hg ?_, ⟨hin.1, fun i x hx => (hin.2.1 i x hx).grow hg ?_, hin.2.2⟩, hQ⟩
 · rcases hub : u.ownBlock with _ | k
   · rcases hv : v.ownBlock with _ | k
     · exact .inl rfl
     · exact .inr (by simp)
   · refine .inr fun e => ?_
     exact Own.notSliceBlock hr hu k hub e
 · rcases hxb : x.ownBlock with _ | k
   · exact .inl rfl
   · exact .inr fun e => hq x (hQ i x hx) k hxb e.symm
theorem OwnSQ.row (h : OwnSQ w B v yss Q) {i : Nat} (hi : i < yss.length) :
    ∃ a c, Own w B (.slice a (nthL yss i).length c) (nthL yss i) ∧ Q (.slice a (nthL yss i).length c) ∧
     (∀ b off m d, v = .slice (some ⟨b, off, none⟩) m d → w.cell? ⟨b, off + i, none⟩ = some (.slice a (nthL yss i).length c)) ∧
     (∀ w' ys, Own w' B (.slice a (nthL yss i).length c) ys → ys.length = (nthL yss i).length → w.grownBy w' (Value.ownBlock (.slice a (nthL yss i).length c)) → OwnSQ w' B v (yss.set i ys) Q) ∧
     (∀ j a' c', j < yss.length → j ≠ i → (∀ b off m d, v = .slice (some ⟨b, off, none⟩) m d → w.cell? ⟨b, off + j, none⟩ = some (.slice a' (nthL yss j).length c')) → v.ownBlock ≠ none → ∀ k, Value.ownBlock (.slice a' (nthL yss j).length c') = some k → Value.ownBlock (.slice a (nthL yss i).length c) ≠ some k) := by
 obtain ⟨hl, vs, hr, hin, hQ⟩ := h
 have hil : i < vs.length := by rw [hin.1]; exact hi
 have hgi := List.getElem?_eq_getElem hil
 have ho := hin.2.1 i _ hgi
 obtain ⟨a, c, e, _, _⟩ := ho.form
 rw [e] at ho hgi
 have hne : ∀ k, Value.ownBlock (.slice a (nthL yss i).length c) = some k → v.ownBlock ≠ some k := Own.notSliceBlock hr ho
 have cellv : ∀ (q : Nat) (b off m d : Nat), q < vs.length → v = .slice (some ⟨b, off, none⟩) m d → w.cell? ⟨b, off + q, none⟩ = vs[q]? := by
  intro q b off m d hq hvv
  have hr2 := hr
  rcases hr.2 with ⟨rfl, _⟩ | ⟨g, cap, cur, rfl, _⟩
  · injection hvv with h0 _ _; cases h0
  · injection hvv with h0 _ _
    injection h0 with h0
    injection h0 with h1 h2
    subst h1; subst h2
    rw [Nat.zero_add]
    exact hr2.cellAt q (by have := hin.1; omega)
 refine ⟨a, c, ho, hQ i _ hgi, fun b off m d hvv => by rw [cellv i b off m d hil hvv, hgi], ?_, ?_⟩
 · intro w' ys ho' hyl hg
   refine ⟨by simpa using hl, vs, ?_, ⟨by simpa using hin.1, fun j x hx => ?_, hin.2.2⟩, hQ⟩
   · rw [List.length_set]
     refine hr.kept hg ?_
     rcases hx : v.ownBlock with _ | k
     · exact .inl rfl
     · exact .inr fun e2 => hne k e2.symm hx
   · by_cases hj : j = i
     · subst hj
       rw [hgi] at hx
       injection hx with hx
       subst hx
       rw [nthL_set_same hi]
       exact ho'
     · rw [nthL_set_ne (Ne.symm hj)]
       refine (hin.2.1 j x hx).grow hg ?_
       rcases hxb : x.ownBlock with _ | k
       · exact .inl rfl
       · exact .inr fun e2 => hin.2.2 i j _ _ k (Ne.symm hj) hgi hx e2.symm hxb
 · intro j a' c' hj hji hcell hv0 k hk hk2
   have hjl : j < vs.length := by rw [hin.1]; exact hj
   rcases hr.2 with ⟨rfl, h0⟩ | ⟨g, cap, cur, rfl, _⟩
   · exact hv0 rfl
   · have h1 := hcell g 0 _ _ rfl
     rw [cellv j g 0 _ _ hjl rfl] at h1
     exact hin.2.2 i j _ _ k (Ne.symm hji) hgi h1 hk2 hk
theorem OwnSQ.put (h : OwnSQ w B (.slice (some ⟨g, 0, none⟩) n c) yss Q) {r : Value} {ys : List Int} (hr : Own w hi r ys) (hB : B ≤ hi)
    (hlow : ∀ x, Q x → ∀ k, x.ownBlock = some k → k < hi) (hq : Q' r) (hQQ : ∀ x, Q x → Q' x) {j : Nat} (hj : j < yss.length) :
    OwnSQ (w.setCell ⟨g, j, none⟩ r) B (.slice (some ⟨g, 0, none⟩) n c) (yss.set j ys) Q' ∧ w.grownBy (w.setCell ⟨g, j, none⟩ r) (some g) := by
 have e := h.own.len
 subst e
 obtain ⟨hl, vs, ho, hin, hQ⟩ := h
 obtain ⟨h1, h2⟩ := ho.stored j r
 have row : ∀ (x : Value) (B2 : Nat) (xs : List Int), Own w B2 x xs → Own (w.setCell ⟨g, j, none⟩ r) B2 x xs := fun x B2 xs hx => row_grow ho h2 hx
 have cas : ∀ (q : Nat) (z : Value), (vs.set j r)[q]? = some z → (q = j ∧ z = r) ∨ (q ≠ j ∧ vs[q]? = some z) := fun q z hz => by
  by_cases e : q = j
  · subst e
    rw [List.getElem?_set_self (by rw [hin.1]; exact hj)] at hz
    injection hz with hz
    exact .inl ⟨rfl, hz.symm⟩
  · rw [List.getElem?_set_ne (Ne.symm e)] at hz
    exact .inr ⟨e, hz⟩
 refine ⟨⟨by simpa using hl, vs.set j r, by rw [List.length_set]; exact h1, ⟨by simp [hin.1], fun i x hx => ?_, fun i k x y b hik hx hy hxb hyb => ?_⟩, fun i x hx => ?_⟩, h2⟩
 · rcases cas i x hx with ⟨rfl, rfl⟩ | ⟨e1, e2⟩
   · rw [nthL_set_same hj]; exact (row _ _ _ hr).mono hB
   · rw [nthL_set_ne (Ne.symm e1)]; exact row _ _ _ (hin.2.1 i x e2)
 · rcases cas i x hx with ⟨e1, e2⟩ | ⟨e1, e2⟩ <;> rcases cas k y hy with ⟨f1, f2⟩ | ⟨f1, f2⟩
   · omega
   · subst e2
     have a1 := (hr.lt b hxb).1
     have a2 := hlow y (hQ k y f2) b hyb
     omega
   · subst f2
     have a1 := (hr.lt b hyb).1
     have a2 := hlow x (hQ i x e2) b hxb
     omega
   · exact hin.2.2 i k x y b hik e2 f2 hxb hyb
 · rcases cas i x hx with ⟨rfl, rfl⟩ | ⟨e1, e2⟩
   · exact hq
   · exact hQQ x (hQ i x e2)
theorem OwnSQ.swap (h : OwnSQ w B (.slice (some ⟨g, 0, none⟩) n c) yss Q) {i j : Nat} (hi : i < yss.length) (hj : j < yss.length) (hij : i ≠ j) {x y : Value} (hx : w.cell? ⟨g, i, none⟩ = some x) (hy : w.cell? ⟨g, j, none⟩ = some y) :
    OwnSQ ((w.setCell ⟨g, i, none⟩ y).setCell ⟨g, j, none⟩ x) B (.slice (some ⟨g, 0, none⟩) n c) ((yss.set i (nthL yss j)).set j (nthL yss i)) Q ∧ w.grownBy ((w.setCell ⟨g, i, none⟩ y).setCell ⟨g, j, none⟩ x) (some g) := by
 have e := h.own.len
 subst e
 obtain ⟨hl, vs, ho, hin, hQ⟩ := h
 have vx : vs[i]? = some x := by rw [← ho.cellAt i (by omega)]; exact hx
 have vy : vs[j]? = some y := by rw [← ho.cellAt j (by omega)]; exact hy
 obtain ⟨h1, h2⟩ := ho.stored i y
 obtain ⟨h3, h4⟩ := h1.stored j x
 have row : ∀ (z : Value) (B2 : Nat) (xs : List Int), Own w B2 z xs → Own ((w.setCell ⟨g, i, none⟩ y).setCell ⟨g, j, none⟩ x) B2 z xs := fun z B2 xs hz => row_grow h1 h4 (row_grow ho h2 hz)
 have hil : i < vs.length := by rw [hin.1]; exact hi
 have hjl : j < vs.length := by rw [hin.1]; exact hj
 have cas : ∀ (q : Nat) (z : Value), ((vs.set i y).set j x)[q]? = some z → ∃ q', vs[q']? = some z ∧ ((q = j ∧ q' = i) ∨ (q = i ∧ q ≠ j ∧ q' = j) ∨ (q ≠ i ∧ q ≠ j ∧ q' = q)) := fun q z hz => by
  by_cases e : q = j
  · subst e
    rw [List.getElem?_set_self (by rw [List.length_set]; exact hjl)] at hz
    injection hz with hz
    subst hz
    exact ⟨i, vx, .inl ⟨rfl, rfl⟩⟩
  · rw [List.getElem?_set_ne (Ne.symm e)] at hz
    by_cases e2 : q = i
    · subst e2
      rw [List.getElem?_set_self hil] at hz
      injection hz with hz
      subst hz
      exact ⟨j, vy, .inr (.inl ⟨rfl, e, rfl⟩)⟩
    · rw [List.getElem?_set_ne (Ne.symm e2)] at hz
      exact ⟨q, hz, .inr (.inr ⟨e2, e, rfl⟩)⟩
 refine ⟨⟨by simpa using hl, (vs.set i y).set j x, by simpa using h3, ⟨by simp [hin.1], fun q z hz => ?_, fun q k z u b hqk hz hu hzb hub => ?_⟩, fun q z hz => ?_⟩, grown_trans_row h2 h4⟩
 · obtain ⟨q', hq, hc⟩ := cas q z hz
   have o := row _ _ _ (hin.2.1 q' z hq)
   rcases hc with ⟨rfl, rfl⟩ | ⟨rfl, hne, rfl⟩ | ⟨h1, h2, rfl⟩
   · rw [nthL_set_same (by rw [List.length_set]; exact hj)]; exact o
   · rw [nthL_set_ne (Ne.symm hne), nthL_set_same hi]; exact o
   · rw [nthL_set_ne (Ne.symm h2), nthL_set_ne (Ne.symm h1)]; exact o
 · obtain ⟨q', hq, hc⟩ := cas q z hz
   obtain ⟨k', hk, hd⟩ := cas k u hu
   exact hin.2.2 q' k' z u b (by omega) hq hk hzb hub
 · obtain ⟨q', hq, _⟩ := cas q z hz
   exact hQ q' z hq
end
end Go.Proofs.Ytgfcbmflnldicaa
namespace Go.Proofs.Ytgfcbmflnldicaa
open Go.RowKit
theorem Blk.grown {w w' : World} {g : Nat} {t : TypeId} {cs : Array Value} {row : Option Nat} (h : Blk w g t cs) (hg : w.grownBy w' row) (hne : row ≠ some g) : Blk w' g t cs := (hg.block g h.lt (Ne.symm hne)).trans h
end Go.Proofs.Ytgfcbmflnldicaa
