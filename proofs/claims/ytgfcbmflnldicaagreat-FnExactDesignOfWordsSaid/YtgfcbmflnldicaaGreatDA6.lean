/-
  Texts joined.
-/
import Derived.Test.YtgfcbmflnldicaaGreatDA1
set_option linter.unusedVariables false
set_option linter.unusedSimpArgs false
set_option maxRecDepth 100000
set_option maxHeartbeats 40000000
namespace Go.Proofs.YtgfcbmflnldicaaGreat
open Go.RowKit
def Cg (p a b : Int) : Prop := ∃ k, a = b + p * k
theorem Cg.refl (p a : Int) : Cg p a a := ⟨0, by simp⟩
theorem Cg.of_eq {p a b : Int} (h : a = b) : Cg p a b := h ▸ Cg.refl p a
theorem Cg.symm {p a b : Int} (h : Cg p a b) : Cg p b a := by
 obtain ⟨k, rfl⟩ := h
 exact ⟨-k, by grind⟩
theorem Cg.trans {p a b c : Int} (h : Cg p a b) (g : Cg p b c) : Cg p a c := by
 obtain ⟨k, rfl⟩ := h
 obtain ⟨j, rfl⟩ := g
 exact ⟨j + k, by grind⟩
theorem Cg.add {p a b c d : Int} (h : Cg p a b) (g : Cg p c d) : Cg p (a + c) (b + d) := by
 obtain ⟨k, rfl⟩ := h
 obtain ⟨j, rfl⟩ := g
 exact ⟨k + j, by grind⟩
theorem Cg.mul {p a b c d : Int} (h : Cg p a b) (g : Cg p c d) : Cg p (a * c) (b * d) := by
 obtain ⟨k, rfl⟩ := h
 obtain ⟨j, rfl⟩ := g
 exact ⟨b * j + k * d + p * k * j, by grind⟩
theorem Cg.sub {p a b c d : Int} (h : Cg p a b) (g : Cg p c d) : Cg p (a - c) (b - d) := by
 obtain ⟨k, rfl⟩ := h
 obtain ⟨j, rfl⟩ := g
 exact ⟨k - j, by grind⟩
theorem Cg.emod (p a : Int) : Cg p (a % p) a := ⟨-(a / p), by have := Int.emod_add_mul_ediv a p; grind⟩
theorem Cg.eq {p a b : Int} (h : Cg p a b) (ha : 0 ≤ a ∧ a < p) (hb : 0 ≤ b ∧ b < p) : a = b := by
 obtain ⟨k, hk⟩ := h
 have h1 : a % p = b % p := by rw [hk, Int.add_mul_emod_self_left]
 rwa [Int.emod_eq_of_lt ha.1 ha.2, Int.emod_eq_of_lt hb.1 hb.2] at h1
theorem Cg.emod_eq {p a b : Int} (h : Cg p a b) : a % p = b % p := by
 obtain ⟨k, rfl⟩ := h
 rw [Int.add_mul_emod_self_left]
theorem nth_big {xs : List Int} {i : Nat} (h : xs.length ≤ i) : nth xs i = 0 := by simp [nth, h]
theorem nth_cons_zero (x : Int) (xs : List Int) : nth (x :: xs) 0 = x := rfl
theorem nth_cons_succ (x : Int) (xs : List Int) (i : Nat) : nth (x :: xs) (i + 1) = nth xs i := rfl
theorem num_nth {p : Int} (hp : 0 < p) : ∀ (xs : List Int), InR p xs → ∀ i, i < xs.length → num p xs / p ^ i % p = nth xs i := by
 intro xs
 induction xs with
 | nil => intro _ i hi; simp at hi
 | cons x xs ih =>
  intro h i hi
  have hx := h x List.mem_cons_self
  have hxs : InR p xs := fun y hy => h y (List.mem_cons_of_mem _ hy)
  rw [num_cons]
  rcases i with _ | i
  · rw [nth_cons_zero, Int.pow_zero, Int.ediv_one, Int.add_comm, Int.add_mul_emod_self_right, Int.emod_eq_of_lt hx.1 hx.2]
  · rw [nth_cons_succ, Int.pow_succ', ← Int.ediv_ediv_of_nonneg (by omega)]
    have e : (num p xs * p + x) / p = num p xs := by
     rw [Int.add_comm, Int.add_mul_ediv_right _ _ (by omega), Int.ediv_eq_zero_of_lt hx.1 hx.2, Int.zero_add]
    rw [e]
    exact ih hxs i (by simpa using hi)
theorem dig_num {p : Int} (hp : 0 < p) {xs : List Int} (h : InR p xs) {k : Nat} (hk : xs.length = k) : dig (num p xs) p k = xs := by
 apply eq_of_nth (by rw [dig_len, hk])
 intro i hi
 rw [dig_len] at hi
 rw [dig_nth _ _ hi, num_nth hp xs h i (by omega)]
theorem dig_cons (a p : Int) (hp : 0 < p) (k : Nat) : dig a p (k + 1) = a % p :: dig (a / p) p k := by
 unfold dig
 rw [List.range_succ_eq_map, List.map_cons, List.map_map, Int.pow_zero, Int.ediv_one]
 congr 1
 apply List.map_congr_left
 intro i _
 show a / p ^ (i + 1) % p = a / p / p ^ i % p
 rw [Int.pow_succ', ← Int.ediv_ediv_of_nonneg (by omega)]
theorem num_dig {p : Int} (hp : 0 < p) (k : Nat) : ∀ {a : Int}, 0 ≤ a → a < p ^ k → num p (dig a p k) = a := by
 induction k with
 | zero => intro a h0 h1; simp at h1; obtain rfl : a = 0 := by omega
           rfl
 | succ k ih =>
  intro a h0 h1
  rw [dig_cons a p hp, num_cons, ih (Int.ediv_nonneg h0 (by omega)) (Int.ediv_lt_of_lt_mul hp (by rw [Int.pow_succ] at h1; exact h1))]
  have := Int.emod_add_mul_ediv a p
  grind
theorem dig_inR {p : Int} (hp : 0 < p) (a : Int) (k : Nat) : InR p (dig a p k) := dig_range hp k
def lin (s p : Int) (k : Nat) (a b : Int) : Int := num p ((List.range k).map fun (i : Nat) => (a / p ^ i % p + s * (b / p ^ i % p)) % p)
theorem lin_inR {p : Int} (hp : 0 < p) (s : Int) (k : Nat) (a b : Int) : InR p ((List.range k).map fun (i : Nat) => (a / p ^ i % p + s * (b / p ^ i % p)) % p) := by
 intro x hx
 obtain ⟨i, _, rfl⟩ := List.mem_map.1 hx
 exact emod_range hp _
theorem lin_dig {p : Int} (hp : 0 < p) (s : Int) (k : Nat) (a b : Int) {i : Nat} (hi : i < k) : nth (dig (lin s p k a b) p k) i = (nth (dig a p k) i + s * nth (dig b p k) i) % p := by
 rw [lin, dig_num hp (lin_inR hp s k a b) (by simp), nth_lt (by simpa using hi), dig_nth _ _ hi, dig_nth _ _ hi]
 simp
theorem lin_range {p : Int} (hp : 0 < p) (s : Int) (k : Nat) (a b : Int) : 0 ≤ lin s p k a b ∧ lin s p k a b < p ^ k := by
 have h := num_bound hp (lin_inR hp s k a b)
 simpa [lin] using h
theorem dig_ext {p : Int} (hp : 0 < p) {k : Nat} {a b : Int} (ha : 0 ≤ a ∧ a < p ^ k) (hb : 0 ≤ b ∧ b < p ^ k) (h : ∀ i, i < k → Cg p (nth (dig a p k) i) (nth (dig b p k) i)) : a = b := by
 rw [← num_dig hp k ha.1 ha.2, ← num_dig hp k hb.1 hb.2]
 congr 1
 apply eq_of_nth (by rw [dig_len, dig_len])
 intro i hi
 have hi2 := hi
 rw [dig_len] at hi
 exact (h i hi).eq ((dig_inR hp a k).nth hi2) ((dig_inR hp b k).nth (by rw [dig_len]; exact hi))
theorem lin_cg {p : Int} (hp : 0 < p) (s : Int) (k : Nat) (a b : Int) {i : Nat} (hi : i < k) : Cg p (nth (dig (lin s p k a b) p k) i) (nth (dig a p k) i + s * nth (dig b p k) i) := by
 rw [lin_dig hp s k a b hi]; exact Cg.emod _ _
theorem lin_sign {p : Int} (k : Nat) (a b : Int) : lin (p - 1) p k a b = lin (-1) p k a b := by
 unfold lin
 congr 1
 apply List.map_congr_left
 intro i _
 exact Cg.emod_eq ⟨b / p ^ i % p, by grind⟩
theorem dig_zero_nth (p : Int) {k i : Nat} (h : i < k) : nth (dig 0 p k) i = 0 := by rw [dig_nth _ _ h]; simp
theorem lin_zero {p : Int} (hp : 0 < p) (s : Int) {k : Nat} {a : Int} (ha : 0 ≤ a ∧ a < p ^ k) : lin s p k a 0 = a := by
 refine dig_ext hp (lin_range hp ..) ha fun i hi => (lin_cg hp s k a 0 hi).trans ?_
 rw [dig_zero_nth p hi]
 exact Cg.of_eq (by simp)
def sm (f : Nat → Int) : Nat → Int
 | 0 => 0
 | n + 1 => sm f n + f n
theorem sm_congr {f g : Nat → Int} {n : Nat} (h : ∀ i, i < n → f i = g i) : sm f n = sm g n := by
 induction n with
 | zero => rfl
 | succ n ih => rw [sm, sm, ih (fun i hi => h i (by omega)), h n (by omega)]
theorem sm_cg {p : Int} {f g : Nat → Int} {n : Nat} (h : ∀ i, i < n → Cg p (f i) (g i)) : Cg p (sm f n) (sm g n) := by
 induction n with
 | zero => exact Cg.refl _ _
 | succ n ih => exact (ih (fun i hi => h i (by omega))).add (h n (by omega))
theorem sm_lin (s : Int) (f g : Nat → Int) (n : Nat) : sm (fun i => f i + s * g i) n = sm f n + s * sm g n := by
 induction n with
 | zero => simp [sm]
 | succ n ih => simp only [sm, ih]; grind
theorem sm_zero {f : Nat → Int} {n : Nat} (h : ∀ i, i < n → f i = 0) : sm f n = 0 := by
 induction n with
 | zero => rfl
 | succ n ih => rw [sm, ih (fun i hi => h i (by omega)), h n (by omega)]; rfl
theorem sm_more {f : Nat → Int} {a n : Nat} (han : a ≤ n) (h : ∀ i, a ≤ i → i < n → f i = 0) : sm f n = sm f a := by
 induction n with
 | zero => obtain rfl : a = 0 := by omega
           rfl
 | succ n ih =>
  by_cases e : a = n + 1
  · rw [e]
  · rw [sm, ih (by omega) (fun i h1 h2 => h i h1 (by omega)), h n (by omega) (by omega), Int.add_zero]
theorem sm_shift (f : Nat → Int) (n : Nat) : sm f (n + 1) = f 0 + sm (fun i => f (i + 1)) n := by
 induction n with
 | zero => simp [sm]
 | succ n ih => rw [sm, ih, sm]; grind
theorem sm_flip (f : Nat → Int) (n : Nat) : sm (fun i => f (n - 1 - i)) n = sm f n := by
 induction n generalizing f with
 | zero => rfl
 | succ n ih =>
  rw [sm_shift f, ← ih, sm]
  have : sm (fun i => f (n + 1 - 1 - i)) n = sm (fun i => f (n - 1 - i + 1)) n := sm_congr fun i hi => by congr 1; omega
  rw [this]
  simp [Int.add_comm]
def convTo (p : Int) (xs ys z : List Int) : Nat → List Int
 | 0 => z
 | i + 1 => setK (convTo p xs ys z i) ys (-(nth xs i)) p i ys.length
def zeros (m : Nat) : List Int := List.replicate m 0
theorem zeros_len (m : Nat) : (zeros m).length = m := by simp [zeros]
theorem zeros_nth (m i : Nat) : nth (zeros m) i = 0 := by
 simp only [nth, zeros, List.getD_eq_getElem?_getD, List.getElem?_replicate]
 split <;> rfl
theorem zeros_inR {p : Int} (hp : 0 < p) (m : Nat) : InR p (zeros m) := by
 intro x hx
 obtain rfl : x = 0 := by simpa [zeros] using (List.mem_replicate.1 hx).2
 omega
theorem convTo_len (p : Int) (xs ys z : List Int) (i : Nat) : (convTo p xs ys z i).length = z.length := by
 induction i with
 | zero => rfl
 | succ i ih => rw [convTo, setK_len, ih]
theorem convTo_inR {p : Int} (hp : 0 < p) (xs ys : List Int) {z : List Int} (hz : InR p z) (i : Nat) : InR p (convTo p xs ys z i) := by
 induction i with
 | zero => exact hz
 | succ i ih => exact setK_in hp ih _ _ _ _
theorem setK_get (xs ys : List Int) (c p : Int) (off k j : Nat) (h : off + k ≤ xs.length) :
    nth (setK xs ys c p off k) j = if off ≤ j ∧ j < off + k then (nth xs j - c * nth ys (j - off)) % p else nth xs j := by
 induction k with
 | zero => rw [if_neg (by omega)]; rfl
 | succ k ih =>
  have ih := ih (by omega)
  rw [setK]
  by_cases e : j = off + k
  · subst e
    rw [nth_set_same (by rw [setK_len]; omega), if_pos (by omega), Nat.add_sub_cancel_left]
  · rw [nth_set_ne (by omega), ih]
    by_cases g : off ≤ j ∧ j < off + k
    · rw [if_pos g, if_pos (by omega)]
    · rw [if_neg g, if_neg (by omega)]
def cv (x y : Nat → Int) (m : Nat) (n : Nat) : Int := sm (fun i => if i ≤ m then x i * y (m - i) else 0) n
theorem convTo_nth {p : Int} (hp : 0 < p) (xs ys : List Int) (L : Nat) (i : Nat) (hi : i + ys.length ≤ L + 1) (h0 : i ≤ L) (m : Nat) :
    nth (convTo p xs ys (zeros L) i) m = cv (nth xs) (nth ys) m i % p := by
 induction i with
 | zero => rw [convTo, zeros_nth]; simp [cv, sm]
 | succ i ih =>
  have ih := ih (by omega) (by omega)
  rw [convTo, setK_get _ _ _ _ _ _ _ (by rw [convTo_len, zeros_len]; omega), ih]
  show _ = (cv (nth xs) (nth ys) m i + (if i ≤ m then nth xs i * nth ys (m - i) else 0)) % p
  by_cases h1 : i ≤ m
  · rw [if_pos h1]
    by_cases h2 : m < i + ys.length
    · rw [if_pos ⟨h1, h2⟩]
      refine Cg.emod_eq (((Cg.emod p (cv (nth xs) (nth ys) m i)).sub (Cg.refl p _)).trans (Cg.of_eq ?_))
      grind
    · rw [if_neg (by omega), nth_big (xs := ys) (by omega)]; simp
  · rw [if_neg h1, if_neg (by omega)]; simp
theorem cv_full {x y : Nat → Int} {n : Nat} (hx : ∀ i, n ≤ i → x i = 0) (m : Nat) : cv x y m n = sm (fun i => x i * y (m - i)) (m + 1) := by
 unfold cv
 rcases Nat.le_total n (m + 1) with h | h
 · rw [sm_more h (fun i h1 h2 => by rw [hx i h1, Int.zero_mul])]
   exact sm_congr fun i hi => if_pos (by omega)
 · rw [sm_more h (fun i h1 h2 => if_neg (by omega))]
   exact sm_congr fun i hi => if_pos (by omega)
theorem cv_comm {x y : Nat → Int} {n : Nat} (hx : ∀ i, n ≤ i → x i = 0) (hy : ∀ i, n ≤ i → y i = 0) (m : Nat) : cv x y m n = cv y x m n := by
 rw [cv_full hx, cv_full hy, ← sm_flip (fun i => y i * x (m - i)) (m + 1)]
 apply sm_congr
 intro i hi
 show _ = y (m + 1 - 1 - i) * x (m - (m + 1 - 1 - i))
 rw [Int.mul_comm, show m + 1 - 1 - i = m - i by omega, show m - (m - i) = i by omega]
theorem cv_cg {p : Int} {x y x' y' : Nat → Int} {m n : Nat} (hx : ∀ i, Cg p (x i) (x' i)) (hy : ∀ i, Cg p (y i) (y' i)) : Cg p (cv x y m n) (cv x' y' m n) := by
 refine sm_cg fun i _ => ?_
 split
 · exact (hx _).mul (hy _)
 · exact Cg.refl _ _
theorem cv_lin (s : Int) (x y z : Nat → Int) (m n : Nat) : cv x (fun i => y i + s * z i) m n = cv x y m n + s * cv x z m n := by
 unfold cv
 rw [← sm_lin]
 apply sm_congr
 intro i _
 split
 · grind
 · simp
theorem remTo_lin {p : Int} (s : Int) (ys xs us vs : List Int) (hu : us.length = xs.length) (hv : vs.length = xs.length) (hy : 1 ≤ ys.length)
    (h : ∀ j, Cg p (nth xs j) (nth us j + s * nth vs j)) (t : Nat) (ht : t ≤ xs.length - (ys.length - 1)) : ∀ j, Cg p (nth (remTo p ys xs t) j) (nth (remTo p ys us t) j + s * nth (remTo p ys vs t) j) := by
 induction t with
 | zero => exact h
 | succ t ih =>
  have ih := ih (by omega)
  intro j
  rw [remTo, remTo, remTo, hu, hv, setK_get _ _ _ _ _ _ _ (by rw [remTo_len]; omega), setK_get _ _ _ _ _ _ _ (by rw [remTo_len, hu]; omega), setK_get _ _ _ _ _ _ _ (by rw [remTo_len, hv]; omega)]
  split
  · refine (Cg.emod _ _).trans (Cg.trans ?_ ((Cg.emod _ _).add ((Cg.refl p s).mul (Cg.emod _ _))).symm)
    refine ((ih j).sub ((ih _).mul (Cg.refl p _))).trans (Cg.of_eq ?_)
    grind
  · exact ih j
theorem take_nth_lt {xs : List Int} {k j : Nat} (h : j < k) : nth (xs.take k) j = nth xs j := by
 simp [nth, List.getD_eq_getElem?_getD, h]
theorem prem_lin {p : Int} (s : Int) (ys xs us vs : List Int) (hu : us.length = xs.length) (hv : vs.length = xs.length) (hy : 1 ≤ ys.length)
    (h : ∀ j, Cg p (nth xs j) (nth us j + s * nth vs j)) (j : Nat) : Cg p (nth (prem p ys xs) j) (nth (prem p ys us) j + s * nth (prem p ys vs) j) := by
 by_cases hj : j < ys.length - 1
 · rw [prem, prem, prem, take_nth_lt hj, take_nth_lt hj, take_nth_lt hj, hu, hv]
   exact remTo_lin s ys xs us vs hu hv hy h _ (Nat.le_refl _) j
 · rw [nth_big (by rw [prem_len]; omega), nth_big (by rw [prem_len]; omega), nth_big (by rw [prem_len]; omega)]
   exact Cg.of_eq (by simp)
def mulD (p : Int) (poly xs ys : List Int) (L : Nat) : List Int := prem p poly (convTo p xs ys (zeros L) xs.length)
def mulF (p : Int) (k : Nat) (poly : List Int) (a b : Int) : Int := num p (mulD p poly (dig a p k) (dig b p k) (2 * k))
section
variable {p : Int} {k : Nat} {poly : List Int}
theorem mulD_len (hl : poly.length = k + 1) {xs ys : List Int} {L : Nat} (hL : k ≤ L) : (mulD p poly xs ys L).length = k := by
 rw [mulD, prem_len, convTo_len, zeros_len]; omega
theorem mulD_inR (hp : 0 < p) (xs ys : List Int) (L : Nat) : InR p (mulD p poly xs ys L) := prem_in hp (convTo_inR hp _ _ (zeros_inR hp _) _) _
theorem mulF_range (hp : 0 < p) (hl : poly.length = k + 1) (a b : Int) : 0 ≤ mulF p k poly a b ∧ mulF p k poly a b < p ^ k := by
 have h := num_bound hp (mulD_inR (poly := poly) hp (dig a p k) (dig b p k) (2 * k))
 rwa [mulD_len hl (by omega)] at h
theorem mulF_dig (hp : 0 < p) (hl : poly.length = k + 1) (a b : Int) : dig (mulF p k poly a b) p k = mulD p poly (dig a p k) (dig b p k) (2 * k) :=
 dig_num hp (mulD_inR hp _ _ _) (mulD_len hl (by omega))
theorem mulF_comm (hp : 0 < p) (a b : Int) : mulF p k poly a b = mulF p k poly b a := by
 unfold mulF mulD
 congr 2
 rw [dig_len, dig_len]
 apply eq_of_nth (by rw [convTo_len, convTo_len])
 intro m hm
 rw [convTo_nth hp _ _ _ _ (by rw [dig_len]; omega) (by omega), convTo_nth hp _ _ _ _ (by rw [dig_len]; omega) (by omega)]
 rw [cv_comm (fun i hi => nth_big (by rw [dig_len]; exact hi)) (fun i hi => nth_big (by rw [dig_len]; exact hi))]
theorem lin_cg_all (hp : 0 < p) (s a b : Int) (i : Nat) : Cg p (nth (dig (lin s p k a b) p k) i) (nth (dig a p k) i + s * nth (dig b p k) i) := by
 by_cases hi : i < k
 · exact lin_cg hp s k a b hi
 · rw [nth_big (by rw [dig_len]; omega), nth_big (by rw [dig_len]; omega), nth_big (by rw [dig_len]; omega)]
   exact Cg.of_eq (by simp)
theorem mulF_lin (hp : 0 < p) (hl : poly.length = k + 1) (s a b c : Int) : mulF p k poly a (lin s p k b c) = lin s p k (mulF p k poly a b) (mulF p k poly a c) := by
 refine dig_ext hp (mulF_range hp hl _ _) (lin_range hp ..) fun i hi => ?_
 refine Cg.trans ?_ (lin_cg hp s k _ _ hi).symm
 rw [mulF_dig hp hl, mulF_dig hp hl, mulF_dig hp hl]
 refine prem_lin s poly _ _ _ (by rw [convTo_len, convTo_len]) (by rw [convTo_len, convTo_len]) (by omega) (fun j => ?_) i
 rw [dig_len, convTo_nth hp _ _ _ _ (by rw [dig_len]; omega) (by omega), convTo_nth hp _ _ _ _ (by rw [dig_len]; omega) (by omega), convTo_nth hp _ _ _ _ (by rw [dig_len]; omega) (by omega)]
 refine (Cg.emod _ _).trans (Cg.trans ?_ ((Cg.emod _ _).add ((Cg.refl p s).mul (Cg.emod _ _))).symm)
 refine (cv_cg (fun i => Cg.refl _ _) (fun i => lin_cg_all hp s b c i)).trans (Cg.of_eq ?_)
 exact cv_lin s _ _ _ _ _
theorem mulF_zero (hp : 0 < p) (hl : poly.length = k + 1) (a : Int) : mulF p k poly a 0 = 0 := by
 have h0 : (0 : Int) < p ^ k := Int.pow_pos hp
 have h := mulF_lin hp hl (-1) a 0 0
 rw [lin_zero hp (-1) ⟨Int.le_refl _, h0⟩] at h
 refine dig_ext hp (mulF_range hp hl _ _) ⟨Int.le_refl _, h0⟩ fun i hi => ?_
 rw [h]
 refine (lin_cg hp _ _ _ _ hi).trans ?_
 rw [dig_zero_nth p hi]
 exact Cg.of_eq (by grind)
theorem zero_mulF (hp : 0 < p) (hl : poly.length = k + 1) (a : Int) : mulF p k poly 0 a = 0 := by rw [mulF_comm hp, mulF_zero hp hl]
theorem add_neg_mul (hp : 0 < p) (hl : poly.length = k + 1) (a c w : Int) : lin 1 p k a (mulF p k poly (lin (-1) p k 0 c) w) = lin (-1) p k a (mulF p k poly c w) := by
 rw [mulF_comm hp (lin _ _ _ _ _), mulF_lin hp hl, mulF_zero hp hl, mulF_comm hp w c]
 refine dig_ext hp (lin_range hp ..) (lin_range hp ..) fun i hi => ?_
 refine ((lin_cg hp _ _ _ _ hi).trans ((Cg.refl p _).add ((Cg.refl p _).mul (lin_cg hp _ _ _ _ hi)))).trans (Cg.trans ?_ (lin_cg hp _ _ _ _ hi).symm)
 rw [dig_zero_nth p hi]
 exact Cg.of_eq (by grind)
end
theorem inR_nth {p : Int} (hp : 0 < p) {xs : List Int} (h : InR p xs) (j : Nat) : 0 ≤ nth xs j ∧ nth xs j < p := by
 by_cases hj : j < xs.length
 · exact h.nth hj
 · rw [nth_big (by omega)]; omega
theorem remTo_succ (p : Int) (ys xs : List Int) (t : Nat) : remTo p ys xs (t + 1) = setK (remTo p ys xs t) ys (nth (remTo p ys xs t) (xs.length - 1 - t)) p (xs.length - 1 - t - (ys.length - 1)) ys.length := rfl
theorem remTo_pad {p : Int} (hp : 0 < p) (ys xs us : List Int) (hl : xs.length = us.length + 1) (hr : InR p xs) (hy : 1 ≤ ys.length) (hyl : ys.length - 1 ≤ us.length)
    (h : ∀ j, nth xs j = nth us j) (t : Nat) (ht : t ≤ us.length - (ys.length - 1)) : ∀ j, nth (remTo p ys xs (t + 1)) j = nth (remTo p ys us t) j := by
 induction t with
 | zero =>
  intro j
  rw [remTo, remTo, remTo, setK_get _ _ _ _ _ _ _ (by omega), h (xs.length - 1 - 0), nth_big (xs := us) (by omega)]
  split
  · rw [Int.zero_mul, Int.sub_zero, h j, ← h j, Int.emod_eq_of_lt (inR_nth hp hr j).1 (inR_nth hp hr j).2]
  · exact h j
 | succ t ih =>
  have ih := ih (by omega)
  intro j
  rw [remTo_succ p ys xs (t + 1), remTo_succ p ys us t, setK_get _ _ _ _ _ _ _ (by rw [remTo_len]; omega), setK_get _ _ _ _ _ _ _ (by rw [remTo_len]; omega), ih j, hl, show us.length + 1 - 1 - (t + 1) = us.length - 1 - t by omega, ih]
theorem mulD_pad {p : Int} (hp : 0 < p) {k : Nat} {poly xs ys : List Int} (hk : 1 ≤ k) (hl : poly.length = k + 1) (hx : xs.length = k) (hy : ys.length = k) : mulD p poly xs ys (2 * k - 1) = mulD p poly xs ys (2 * k) := by
 have hz : ∀ L, (convTo p xs ys (zeros L) xs.length).length = L := fun L => by rw [convTo_len, zeros_len]
 apply eq_of_nth (by rw [mulD_len hl (by omega), mulD_len hl (by omega)])
 intro i hi
 rw [mulD_len hl (by omega)] at hi
 unfold mulD prem
 rw [take_nth_lt (by omega), take_nth_lt (by omega), hz, hz, show 2 * k - (poly.length - 1) = (2 * k - 1 - (poly.length - 1)) + 1 by omega]
 refine (remTo_pad hp poly _ _ (by rw [hz, hz]; omega) (convTo_inR hp _ _ (zeros_inR hp _) _) (by omega) (by rw [hz]; omega) (fun j => ?_) _ (by rw [hz]; exact Nat.le_refl _) i).symm
 rw [convTo_nth hp _ _ _ _ (by omega) (by omega), convTo_nth hp _ _ _ _ (by omega) (by omega)]
end Go.Proofs.YtgfcbmflnldicaaGreat
namespace Go.Proofs.YtgfcbmflnldicaaGreat
open Go.RowKit
theorem l00Own_any (a : Option Addr) (c : Nat) (xs : List Int) (w : World) (hx : Rd w a xs) :
    Calls Tryz.prog 108 #[.slice a xs.length c] w fun e w' => ∃ v, e = .returned v ∧ Own w' w.heap.size v xs ∧ Below w.heap.size w w' := by
 have hxl := hx.len
 go_enter Tryz.func108, Tryz.ntmps108
 go_wp2_with (at_builtin; refine wpList_append_ints rfl (.tmp 3) (.tmp 4) rfl w.heap.size _ [] xs rfl (Own.empty w (Nat.le_refl _)) a xs.length c rfl rfl (hx.alloc _) (by simpa using hxl) (by simp) ?_; intro v1 w1 hown1 hg1 _)
 go_ret
 exact ⟨_, rfl, by simpa using hown1, Below.step ((Below.refl _ _).alloc (Nat.le_refl _) _) hg1 (Own.empty w (Nat.le_refl _)) (Nat.le_refl _) (by simp)⟩
theorem l03Digits_any (n p : Int) (k : Nat) (w : World) (hn : 0 ≤ n) (hn2 : n ≤ 9223372036854775807) (hp : 1 ≤ p) (hp2 : p ≤ 1000000) (hk : k ≤ 1000000) :
    Calls Tryz.prog 152 #[.int .i64 n, .int .i64 p, .int .i64 k] w fun e w' => ∃ v, e = .returned v ∧ Own w' w.heap.size v (dig n p k) ∧ Below w.heap.size w w' := by
 go_enter Tryz.func152, Tryz.ntmps152
 go_wp2
 go_loopw [0, 2, 7] (fun nv kv v wr => ∃ (j r : Nat) (m : Int), nv = .int .i64 m ∧ kv = .int .i64 (r : Int) ∧ Hid (j + r = k) ∧ r ≤ 1000000 ∧ j ≤ 1000000 ∧ 0 ≤ m ∧ m ≤ 9223372036854775807 ∧ Hid (m = n / p ^ j) ∧ Own wr w.heap.size v (dig n p j) ∧ Below w.heap.size w wr) (fun _ kv _ _ => (intOf kv).toNat)
 case atStart => exact ⟨0, k, n, rfl, rfl, by simp [Hid], hk, by omega, hn, hn2, by simp [Hid], Own.empty w (Nat.le_refl _), (Below.refl _ _).alloc (Nat.le_refl _) _⟩
 case round =>
  obtain ⟨j, r, m, rfl, rfl, hjr, hr, hj, hm0, hm1, hm, ho, hb⟩ := hrel
  have hsz := hb.size
  by_cases hr0 : 0 < r
  · have e1 := Int.emod_nonneg m (show p ≠ 0 by omega)
    have e2 := Int.emod_lt_of_pos m (show 0 < p by omega)
    have e3 := Int.ediv_nonneg hm0 (show 0 ≤ p by omega)
    have e4 : m / p ≤ m := Int.ediv_le_self _ hm0
    have hdl := dig_len n p j
    go_wp2_with (at_builtin; refine wpList_append_ints rfl (.tmp 13) (.tmp 17) rfl w.heap.size u7 (dig n p j) [m % p] rfl (ho.alloc _) _ 1 1 rfl rfl (Rd.one wr (m % p) _) (by rw [hdl]; simp; omega) (by simp; omega) ?_; intro v1 w1 hown1 hg1 _)
    go_roundw
    case rel => exact ⟨j + 1, r - 1, m / p, rfl, by go_num, by have := hjr.out; show _ = _; omega, by omega, by have := hjr.out; omega, e3, by omega, by show _ = _; rw [hm.out, div_pow_succ n p (by omega)], by rw [dig_succ, ← hm.out]; exact hown1, Below.step (hb.alloc hsz _) hg1 (ho.alloc _) (Nat.le_refl _) (by simp; omega)⟩
    case measure => first | (simp [intOf]; done) | (simp [intOf]; omega)
  · go_wp2
    go_ret
    exact ⟨_, rfl, by have := hjr.out; obtain rfl : j = k := by omega
                      exact ho, hb⟩
theorem l03Number_any (a : Option Addr) (c : Nat) (xs : List Int) (p : Int) (w : World) (hx : Rd w a xs) (hp : 1 ≤ p) (hp2 : p ≤ 1000000) (hr : InR p xs) (hq : p ^ xs.length ≤ 1099511627776) :
    Calls Tryz.prog 175 #[.slice a xs.length c, .int .i64 p] w fun e w' => e = .returned (.int .i64 (num p xs)) ∧ w = w' := by
 have hxl := hx.len
 have bnd : ∀ m, m < xs.length → 0 ≤ num p (xs.drop (m + 1)) * p ∧ num p (xs.drop (m + 1)) * p ≤ 1099511627776 ∧ 0 ≤ nth xs m ∧ nth xs m < p ∧ num p (xs.drop (m + 1)) * p + nth xs m ≤ 1099511627776 := by
  intro m hm
  have h1 := num_bound (p := p) (by omega) (xs := xs.drop m) (fun x hx => hr x (List.mem_of_mem_drop hx))
  have h2 := num_bound (p := p) (by omega) (xs := xs.drop (m + 1)) (fun x hx => hr x (List.mem_of_mem_drop hx))
  rw [num_drop p hm] at h1
  have h3 : p ^ (xs.drop m).length ≤ p ^ xs.length := pow_mono hp (by simp)
  have h4 := hr.nth hm
  have h5 : 0 ≤ num p (xs.drop (m + 1)) * p := Int.mul_nonneg h2.1 (by omega)
  exact ⟨h5, by omega, h4.1, h4.2, by omega⟩
 have BN := hide bnd
 clear bnd hq
 go_enter Tryz.func175, Tryz.ntmps175
 go_wp2
 go_loop [5, 6] (fun o i => ∃ (j : Nat) (x y : Int), i = .int .i64 x ∧ o = .int .i64 y ∧ Hid (x = j - 1) ∧ j ≤ xs.length ∧ -1 ≤ x ∧ x < 1073741824 ∧ Hid (y = num p (xs.drop j)) ∧ 0 ≤ y ∧ y ≤ 1099511627776) (fun _ i => (intOf i + 1).toNat)
 case atStart => exact ⟨xs.length, _, 0, rfl, rfl, by simp [Hid], Nat.le_refl _, by omega, by omega, by simp [Hid, num], by omega, by omega⟩
 case round =>
  obtain ⟨j, x, y, rfl, rfl, hxj, hj, hx0, hx1, hy, hy0, hy1⟩ := hrel
  by_cases h0 : 0 ≤ x
  · obtain ⟨m, rfl⟩ := Int.eq_ofNat_of_zero_le h0
    obtain rfl : j = m + 1 := by have := hxj.out; omega
    obtain ⟨b1, b2, b3, b4, b5⟩ := (unhide BN) m (by omega)
    rw [← hy.out] at b1 b2 b5
    obtain ⟨g, o, rfl, _, hcx⟩ := hx.at_ (by omega)
    have hc := hcx m (by omega)
    clear hcx hx
    go_wp2
    go_round
    case rel => exact ⟨m, _, _, rfl, rfl, rfl, by omega, by omega, by omega, by have := hy.out; subst this; exact (num_drop p (by omega)).symm, by omega, by omega⟩
    case measure => first | (simp [intOf]; done) | (simp [intOf]; omega)
  · go_wp2
    go_ret
    exact ⟨ret_int (by have := hxj.out; obtain rfl : j = 0 := by omega
                       rw [hy.out]; rfl), rfl⟩
theorem numberOf_any (a : Option Addr) (c : Nat) (xs : List Int) (p : Int) (w : World) (hx : Rd w a xs) (hp : 1 ≤ p) (hp2 : p ≤ 1000000) (hr : InR p xs) (hq : p ^ xs.length ≤ 1099511627776) :
    Calls Tryz.prog 213 #[.slice a xs.length c, .int .i64 p] w fun e w' => e = .returned (.int .i64 (num p xs)) ∧ w = w' := by
 have hxl := hx.len
 have bnd : ∀ m, m < xs.length → 0 ≤ num p (xs.drop (m + 1)) * p ∧ num p (xs.drop (m + 1)) * p ≤ 1099511627776 ∧ 0 ≤ nth xs m ∧ nth xs m < p ∧ num p (xs.drop (m + 1)) * p + nth xs m ≤ 1099511627776 := by
  intro m hm
  have h1 := num_bound (p := p) (by omega) (xs := xs.drop m) (fun x hx => hr x (List.mem_of_mem_drop hx))
  have h2 := num_bound (p := p) (by omega) (xs := xs.drop (m + 1)) (fun x hx => hr x (List.mem_of_mem_drop hx))
  rw [num_drop p hm] at h1
  have h3 : p ^ (xs.drop m).length ≤ p ^ xs.length := pow_mono hp (by simp)
  have h4 := hr.nth hm
  have h5 : 0 ≤ num p (xs.drop (m + 1)) * p := Int.mul_nonneg h2.1 (by omega)
  exact ⟨h5, by omega, h4.1, h4.2, by omega⟩
 have BN := hide bnd
 clear bnd hq
 go_enter Tryz.func213, Tryz.ntmps213
 go_wp2
 go_loop [5, 6] (fun o i => ∃ (j : Nat) (x y : Int), i = .int .i64 x ∧ o = .int .i64 y ∧ Hid (x = j - 1) ∧ j ≤ xs.length ∧ -1 ≤ x ∧ x < 1073741824 ∧ Hid (y = num p (xs.drop j)) ∧ 0 ≤ y ∧ y ≤ 1099511627776) (fun _ i => (intOf i + 1).toNat)
 case atStart => exact ⟨xs.length, _, 0, rfl, rfl, by simp [Hid], Nat.le_refl _, by omega, by omega, by simp [Hid, num], by omega, by omega⟩
 case round =>
  obtain ⟨j, x, y, rfl, rfl, hxj, hj, hx0, hx1, hy, hy0, hy1⟩ := hrel
  by_cases h0 : 0 ≤ x
  · obtain ⟨m, rfl⟩ := Int.eq_ofNat_of_zero_le h0
    obtain rfl : j = m + 1 := by have := hxj.out; omega
    obtain ⟨b1, b2, b3, b4, b5⟩ := (unhide BN) m (by omega)
    rw [← hy.out] at b1 b2 b5
    obtain ⟨g, o, rfl, _, hcx⟩ := hx.at_ (by omega)
    have hc := hcx m (by omega)
    clear hcx hx
    go_wp2
    go_round
    case rel => exact ⟨m, _, _, rfl, rfl, rfl, by omega, by omega, by omega, by have := hy.out; subst this; exact (num_drop p (by omega)).symm, by omega, by omega⟩
    case measure => first | (simp [intOf]; done) | (simp [intOf]; omega)
  · go_wp2
    go_ret
    exact ⟨ret_int (by have := hxj.out; obtain rfl : j = 0 := by omega
                       rw [hy.out]; rfl), rfl⟩
theorem l03Power_any (p : Int) (k : Nat) (w : World) (hp : 1 ≤ p) (hp2 : p ≤ 1000000) (hk : k ≤ 1000000) (hq : p ^ k ≤ 1099511627776) :
    Calls Tryz.prog 193 #[.int .i64 p, .int .i64 k] w fun e w' => e = .returned (.int .i64 (p ^ k)) ∧ w = w' := by
 have bnd : ∀ j, j < k → 0 ≤ p ^ j * p ∧ p ^ j * p ≤ 1099511627776 := by
  intro j hj
  have h1 : p ^ (j + 1) ≤ p ^ k := pow_mono hp hj
  rw [Int.pow_succ] at h1
  exact ⟨Int.mul_nonneg (Int.pow_nonneg (by omega)) (by omega), by omega⟩
 have BN := hide bnd
 clear bnd hq
 go_enter Tryz.func193, Tryz.ntmps193
 go_wp2
 go_loop [1, 5] (fun kv o => ∃ (j r : Nat) (y : Int), kv = .int .i64 (r : Int) ∧ o = .int .i64 y ∧ Hid (j + r = k) ∧ r ≤ 1000000 ∧ Hid (y = p ^ j)) (fun kv _ => (intOf kv).toNat)
 case atStart => exact ⟨0, k, 1, rfl, rfl, by simp [Hid], hk, by simp [Hid]⟩
 case round =>
  obtain ⟨j, r, y, rfl, rfl, hjr, hr, hy⟩ := hrel
  by_cases h0 : 0 < r
  · obtain ⟨b1, b2⟩ := (unhide BN) j (by have := hjr.out; omega)
    rw [← hy.out] at b1 b2
    go_wp2
    go_round
    case rel => exact ⟨j + 1, r - 1, _, by go_num, rfl, by have := hjr.out; show _ = _; omega, by omega, by show _ = _; rw [hy.out, Int.pow_succ]⟩
    case measure => first | (simp [intOf]; done) | (simp [intOf]; omega)
  · go_wp2
    go_ret
    exact ⟨ret_int (by have := hjr.out; obtain rfl : j = k := by omega
                       exact hy.out), rfl⟩
end Go.Proofs.YtgfcbmflnldicaaGreat
namespace Go.Proofs.YtgfcbmflnldicaaGreat
open Go.RowKit
theorem results_cell_tmp_row {P : Program} {fn : Func} {p u : Tmp} {ty : TypeId} (h : fn.results = #[.cell p ty, .tmp u]) (tmps : Array Value) (w : World) (g : Nat) (t : TypeId) (cs : Array Value) (d : TypeDesc)
    (hp : tmps.getD p undef = .pointer (some ⟨g, 0, none⟩)) (hg : Blk w g t cs)
    (hu : P.underlying ty = some d) (hd : (match d with | .struct _ | .array _ _ => true | _ => false) = true) (hi : (P.info? ty).map (·.size) = some cs.size) :
    (results fn tmps).run P w = .ok (.tuple #[.agg cs, tmps.getD u undef]) w := by
 rw [results_cell_tmp h, hp]
 simp [asAddr, run_loadVar_row w g t ty cs (0, 0) d hg hu hd hi, Result.andThen]
def polyAt (p : Int) (k n : Nat) : List Int := dig n p k ++ [1]
structure SizeOk (q p : Int) (k : Nat) : Prop where
 lo : 2 ≤ p
 hi : p ≤ 64
 k1 : 1 ≤ k
 k6 : k ≤ 6
 pow : p ^ k = q
 some_ : ∃ n : Nat, n < 64 ∧ irr (polyAt p k n) p = true
end Go.Proofs.YtgfcbmflnldicaaGreat
namespace Go.Proofs.YtgfcbmflnldicaaGreat
open Go.RowKit
theorem equalFuncLists_any (a b : Option Addr) (c d : Nat) (xs ys : List (List Int)) (w : World) (hx : RdS w a xs) (hy : RdS w b ys) :
    Calls Tryz.prog 199 #[.slice a xs.length c, .slice b ys.length d, .func (.func 121) #[] #[]] w fun e w' => e = .returned (.bool (decide (xs = ys))) ∧ Qt w w' := by
 have hxl := hx.len
 have hyl := hy.len
 by_cases hl : xs.length = ys.length
 · have HL := Lib.hid hl
   generalize hn : ys.length = n at hl hyl
   subst hl
   clear hn
   go_enter Tryz.func199, Tryz.ntmps199
   go_wp2
   go_loopw [17] (fun i wr => ∃ (k : Nat), i = .int .i64 k ∧ k ≤ xs.length ∧ Hid (Qt w wr) ∧ Hid (∀ j, j < k → nthL xs j = nthL ys j)) (fun i _ => xs.length - (intOf i).toNat)
   case atStart => exact ⟨0, rfl, by omega, Qt.refl _, fun j hj => by omega⟩
   case round =>
    obtain ⟨k, rfl, hk, hQ, hq⟩ := hrel
    by_cases hkl : k < xs.length
    · obtain ⟨b1, o1, rfl, _, hcx⟩ := (hx.below (hQ.out.below _)).at_ (by omega)
      obtain ⟨b2, o2, rfl, _, hcy⟩ := (hy.below (hQ.out.below _)).at_ (by rw [← HL.out]; omega)
      obtain ⟨ai, ci, hx1, rx⟩ := hcx k hkl
      obtain ⟨aj, cj, hy1, ry⟩ := hcy k (by rw [← HL.out]; omega)
      clear hcx hcy hx hy
      have hc := slicesEqual_any ai aj ci cj (nthL xs k) (nthL ys k) wr rx ry
      obtain ⟨r, hr⟩ : ∃ r, decide (nthL xs k = nthL ys k) = r := ⟨_, rfl⟩
      rw [hr] at hc
      have HR := Lib.hid hr
      have HC := hide hc
      clear hr hc
      go_wp2_with fail
      refine (unhide HC).mono ?_
      rintro e w1 ⟨rfl, q1⟩
      cases r
      · go_wp2
        go_ret
        exact ⟨ret_bool (not_all_eqL (by simpa using HR.out)).symm, hQ.out.trans q1⟩
      · go_wp2
        go_roundw
        case rel =>
         refine ⟨k + 1, by go_num, by omega, hQ.out.trans q1, fun j hj => ?_⟩
         rcases Nat.lt_succ_iff_lt_or_eq.1 hj with h | rfl
         · exact hq.out j h
         · simpa using HR.out
        case measure => simp [intOf]; omega
    · go_wp2
      go_ret
      exact ⟨ret_bool (all_eqL HL.out hkl hq.out).symm, hQ.out⟩
 · have hne : ((xs.length : Int) != (ys.length : Int)) = true := by rw [bne_iff_ne]; omega
   have hd : decide (xs = ys) = false := by rw [decide_eq_false_iff_not]; rintro rfl; exact hl rfl
   have HD := Lib.hid hd
   clear hd
   go_enter Tryz.func199, Tryz.ntmps199
   go_wp2
   go_ret
   exact ⟨ret_bool HD.out.symm, 0, rfl⟩
theorem areSame_any (a b : Option Addr) (c d : Nat) (xs ys : List (List Int)) (w : World) (hx : RdS w a xs) (hy : RdS w b ys) :
    Calls Tryz.prog 144 #[.slice a xs.length c, .slice b ys.length d] w fun e w' => e = .returned (.bool (decide (xs = ys))) ∧ Qt w w' := by
 generalize hr : decide (xs = ys) = r
 have HR := Lib.hid hr
 clear hr
 go_enter Tryz.func144, Tryz.ntmps144
 go_wp2_with fail
 refine (equalFuncLists_any a b c d xs ys w hx hy).mono ?_
 rintro e w1 ⟨rfl, q1⟩
 rw [HR.out]
 go_wp2
 go_ret
 exact ⟨rfl, q1⟩
end Go.Proofs.YtgfcbmflnldicaaGreat
namespace Go.Proofs.YtgfcbmflnldicaaGreat
open Go.RowKit
def sameF (p d : Int) (xs : List Int) (p' d' : Int) (ys : List Int) : Bool := decide (p = p') && (decide (d = d') && decide (xs = ys))
theorem sameF_list (p d : Int) (xs ys : List Int) : sameF p d xs p d ys = decide (xs = ys) := by simp [sameF]
theorem sameF_no {p d p' d' : Int} {xs ys : List Int} (h : p ≠ p' ∨ d ≠ d') : sameF p d xs p' d' ys = false := by
 rcases h with h | h <;> simp [sameF, h]
theorem sameF_self (p d : Int) (xs : List Int) : sameF p d xs p d xs = true := by simp [sameF]
def sameC (p d : Int) (xs : List Int) (xss : List (List Int)) (p' d' : Int) (ys : List Int) (yss : List (List Int)) : Bool := sameF p d xs p' d' ys && decide (xss = yss)
theorem sameC_self (p d : Int) (xs : List Int) (xss : List (List Int)) : sameC p d xs xss p d xs xss = true := by simp [sameC, sameF_self]
theorem eqField_any (p d p' d' : Int) (a b : Option Addr) (c c' : Nat) (xs ys : List Int) (w : World) (hx : Rd w a xs) (hy : Rd w b ys) :
    Calls Tryz.prog 70 #[.agg #[.int .i64 p, .int .i64 d, .slice a xs.length c], .agg #[.int .i64 p', .int .i64 d', .slice b ys.length c']] w fun e w' => e = .returned (.bool (sameF p d xs p' d' ys)) ∧ Below w.heap.size w w' := by
 have hb0 := ((Below.refl w.heap.size w).alloc (Nat.le_refl _) (.cells #[.int .i64 p, .int .i64 d, .slice a xs.length c] 50)).alloc (by simp) (.cells #[.int .i64 p', .int .i64 d', .slice b ys.length c'] 50)
 by_cases hp : p = p'
 · subst hp
   by_cases hd : d = d'
   · subst hd
     go_enter Tryz.func70, Tryz.ntmps70
     go_wp2_with fail
     refine (eqInt64S_any a b c c' xs ys _ (hx.below hb0) (hy.below hb0)).mono ?_
     rintro e w1 ⟨rfl, q1⟩
     have hb1 := hb0.trans (q1.below _)
     generalize hr : decide (xs = ys) = r
     have HR := Lib.hid hr
     clear hr
     cases r
     · go_wp2
       go_ret
       exact ⟨ret_bool (by rw [sameF_list]; exact HR.out.symm), hb1⟩
     · go_wp2
       go_ret
       exact ⟨ret_bool (by rw [sameF_list]; exact HR.out.symm), hb1⟩
   · have h1 : (d != d') = true := by simpa using hd
     have h2 : (d == d') = false := by simpa using hd
     have HD := Lib.hid hd
     clear hd
     go_enter Tryz.func70, Tryz.ntmps70
     go_wp2
     go_ret
     exact ⟨ret_bool (sameF_no (.inr HD.out)).symm, hb0⟩
 · have h1 : (p != p') = true := by simpa using hp
   have h2 : (p == p') = false := by simpa using hp
   have HD := Lib.hid hp
   clear hp
   go_enter Tryz.func70, Tryz.ntmps70
   go_wp2
   go_ret
   exact ⟨ret_bool (sameF_no (.inl HD.out)).symm, hb0⟩
theorem eqCode_any (p d p' d' : Int) (a b ra rb : Option Addr) (c c' rc rc' : Nat) (xs ys : List Int) (xss yss : List (List Int)) (w : World) (hx : Rd w a xs) (hy : Rd w b ys) (hxs : RdS w ra xss) (hys : RdS w rb yss) :
    Calls Tryz.prog 21 #[.agg #[.int .i64 p, .int .i64 d, .slice a xs.length c, .slice ra xss.length rc], .agg #[.int .i64 p', .int .i64 d', .slice b ys.length c', .slice rb yss.length rc']] w fun e w' => e = .returned (.bool (sameC p d xs xss p' d' ys yss)) ∧ Below w.heap.size w w' := by
 obtain ⟨w0, hw0⟩ : ∃ w0, w0 = (w.alloc (.cells #[.int .i64 p, .int .i64 d, .slice a xs.length c, .slice ra xss.length rc] 52)).alloc (.cells #[.int .i64 p', .int .i64 d', .slice b ys.length c', .slice rb yss.length rc'] 52) := ⟨_, rfl⟩
 have hb0 : Below w.heap.size w w0 := by rw [hw0]; exact ((Below.refl _ _).alloc (Nat.le_refl _) _).alloc (by simp) _
 have kA : Blk w0 w.heap.size 52 #[.int .i64 p, .int .i64 d, .slice a xs.length c, .slice ra xss.length rc] := by rw [hw0]; exact (Blk.new _ _ _ rfl).alloc _
 have kB : Blk w0 (w.heap.size + 1) 52 #[.int .i64 p', .int .i64 d', .slice b ys.length c', .slice rb yss.length rc'] := by rw [hw0]; exact Blk.new _ _ _ (by simp)
 have s0 : w0.heap.size = w.heap.size + 1 + 1 := by rw [hw0]; simp
 have HW := Lib.hid hw0
 clear hw0
 go_enter Tryz.func21, Tryz.ntmps21
 go_wp2_with fail
 rw [← HW.out]
 refine (eqField_any p d p' d' a b c c' xs ys w0 (hx.below hb0) (hy.below hb0)).mono ?_
 rintro e w1 ⟨rfl, b1⟩
 have kA1 := kA.below b1 (by omega)
 have kB1 := kB.below b1 (by omega)
 have hb1 := hb0.trans (b1.mono (by omega))
 have f0 : w1.cell? ⟨w.heap.size, 3, none⟩ = some (.slice ra xss.length rc) := kA1.cell 3
 have f1 : w1.cell? ⟨w.heap.size + 1, 3, none⟩ = some (.slice rb yss.length rc') := kB1.cell 3
 generalize hr : sameF p d xs p' d' ys = r
 have HR := Lib.hid hr
 clear hr HW
 cases r
 · go_wp2
   go_ret
   exact ⟨ret_bool (by unfold sameC; rw [HR.out]; rfl), hb1⟩
 · go_wp2_with fail
   refine (eqInt64SS_any ra rb rc rc' xss yss w1 (hxs.below hb1) (hys.below hb1)).mono ?_
   rintro e w2 ⟨rfl, q2⟩
   have hb2 := hb1.trans (q2.below _)
   generalize hr : decide (xss = yss) = r
   have HR2 := Lib.hid hr
   clear hr
   cases r
   · go_wp2
     go_ret
     exact ⟨ret_bool (by unfold sameC; rw [HR.out, HR2.out]; rfl), hb2⟩
   · go_wp2
     go_ret
     exact ⟨ret_bool (by unfold sameC; rw [HR.out, HR2.out]; rfl), hb2⟩
end Go.Proofs.YtgfcbmflnldicaaGreat
namespace Go.Proofs.YtgfcbmflnldicaaGreat
open Go.RowKit
def Kp (w w' : World) (lo hi : Nat) : Prop := w.heap.size ≤ w'.heap.size ∧ ∀ g, lo ≤ g → g < hi → w'.heap[g]? = w.heap[g]?
def Mk (w w' : World) (lo hi : Nat) : Prop := Below lo w w' ∧ ∀ g, hi ≤ g → g < w.heap.size → w'.heap[g]? = w.heap[g]?
section
variable {a b c w w' : World} {lo hi lo' hi' : Nat}
theorem Kp.refl (w : World) (lo hi : Nat) : Kp w w lo hi := ⟨Nat.le_refl _, fun _ _ _ => rfl⟩
theorem Kp.below (h : Below w.heap.size w w') (s : hi ≤ w.heap.size) : Kp w w' lo hi := ⟨h.size, fun g _ hg => h.block g (by omega)⟩
theorem Kp.trans (h : Kp a b lo hi) (k : Kp b c lo hi) : Kp a c lo hi := ⟨Nat.le_trans h.1 k.1, fun g h1 h2 => (k.2 g h1 h2).trans (h.2 g h1 h2)⟩
theorem Kp.sub (h : Kp a b lo hi) (h1 : lo ≤ lo') (h2 : hi' ≤ hi) : Kp a b lo' hi' := ⟨h.1, fun g a b => h.2 g (by omega) (by omega)⟩
theorem Mk.kp (h : Mk w w' lo hi) (d : hi' ≤ lo ∨ hi ≤ lo') (s : hi' ≤ w.heap.size) : Kp w w' lo' hi' :=
 ⟨h.1.size, fun g h1 h2 => by
  rcases d with d | d
  · exact h.1.block g (by omega)
  · exact h.2 g (by omega) (by omega)⟩
theorem Mk.refl (w : World) (lo hi : Nat) : Mk w w lo hi := ⟨Below.refl _ _, fun _ _ _ => rfl⟩
theorem Mk.trans (h : Mk a b lo hi) (k : Mk b c lo hi) : Mk a c lo hi := ⟨h.1.trans k.1, fun g h1 h2 => (k.2 g h1 (by have := h.1.size; omega)).trans (h.2 g h1 h2)⟩
theorem Mk.size (h : Mk w w' lo hi) : w.heap.size ≤ w'.heap.size := h.1.size
theorem Mk.wide (h : Mk w w' lo hi) (h1 : lo' ≤ lo) (h2 : hi ≤ hi') : Mk w w' lo' hi' := ⟨h.1.mono h1, fun g a b => h.2 g (by omega) b⟩
theorem Mk.grown {v : Value} (hg : w.grownBy w' v.ownBlock) (hi_ : In v lo hi) (hlo : lo ≤ w.heap.size) : Mk w w' lo hi :=
 ⟨Below.wrote hg hi_ hlo (Nat.le_refl _), fun g h1 h2 => hg.block g h2 (fun e => by have := hi_ g e.symm; omega)⟩
theorem Mk.alloc (h : Below w.heap.size w w') (h2 : lo ≤ w.heap.size) : Mk w w' lo hi := ⟨h.mono h2, fun g _ hg => h.block g hg⟩
end
theorem cell_block {w w' : World} {g : Nat} (h : w'.heap[g]? = w.heap[g]?) (i : Nat) : w'.cell? ⟨g, i, none⟩ = w.cell? ⟨g, i, none⟩ := by
 simp only [World.cell?]
 rw [h]
theorem Rd.kp {w w' : World} {a : Option Addr} {xs : List Int} (h : Rd w a xs) (k : Kp w w' 0 w.heap.size) : Rd w' a xs :=
 ⟨h.1, fun h0 => by
  obtain ⟨b, off, rfl, hb, hc⟩ := h.at_ h0
  exact ⟨b, off, rfl, fun i hi => (cell_block (k.2 b (Nat.zero_le _) hb) _).trans (hc i hi)⟩⟩
theorem RdS.kp {w w' : World} {a : Option Addr} {xss : List (List Int)} (h : RdS w a xss) (k : Kp w w' 0 w.heap.size) : RdS w' a xss :=
 ⟨h.1, fun h0 => by
  obtain ⟨b, off, rfl, hb, hc⟩ := h.at_ h0
  refine ⟨b, off, rfl, fun i hi => ?_⟩
  obtain ⟨ai, ci, h1, h2⟩ := hc i hi
  exact ⟨ai, ci, (cell_block (k.2 b (Nat.zero_le _) hb) _).trans h1, h2.kp k⟩⟩
theorem Blk.kp {w w' : World} {g : Nat} {t : TypeId} {cs : Array Value} (h : Blk w g t cs) (k : Kp w w' g (g + 1)) : Blk w' g t cs := (k.2 g (Nat.le_refl _) (by omega)).trans h
theorem ownsRow_kp {w w' : World} {B hi e size n : Nat} {v : Value} {vs : List Value} (h : w.ownsRow B e size v n vs) (hv : In v B hi) (k : Kp w w' B hi) : w'.ownsRow B e size v n vs := by
 obtain ⟨h1, h2⟩ := h
 refine ⟨h1, ?_⟩
 rcases h2 with h2 | ⟨g, cap, cur, rfl, hB, hg, r⟩
 · exact .inl h2
 · have := hv g rfl
   exact .inr ⟨g, cap, cur, rfl, hB, (k.2 g this.1 this.2).trans hg, r⟩
def OwnH (w : World) (B hi : Nat) (v : Value) (xs : List Int) : Prop := Own w B v xs ∧ In v B hi
theorem Own.toH {w : World} {B : Nat} {v : Value} {xs : List Int} (h : Own w B v xs) : OwnH w B w.heap.size v xs := ⟨h, h.lt⟩
theorem OwnH.kp {w w' : World} {B hi : Nat} {v : Value} {xs : List Int} (h : OwnH w B hi v xs) (k : Kp w w' B hi) : OwnH w' B hi v xs := ⟨⟨h.1.1, ownsRow_kp h.1.2 h.2 k⟩, h.2⟩
theorem OwnH.rd {w : World} {B hi : Nat} {a : Option Addr} {n c : Nat} {xs : List Int} (h : OwnH w B hi (.slice a n c) xs) : Rd w a xs := h.1.rd
def Bnd (B hi : Nat) (vs : List Value) : Prop := ∀ (i : Nat) (x : Value), vs[i]? = some x → In x B hi
def OwnSH (w : World) (B hi : Nat) (v : Value) (xss : List (List Int)) : Prop :=
 xss.length ≤ 1073741824 ∧ ∃ vs : List Value, w.ownsRow B 24 1 v xss.length vs ∧ Inner w B vs xss ∧ In v B hi ∧ Bnd B hi vs
theorem OwnS.toH {w : World} {B : Nat} {v : Value} {xss : List (List Int)} (h : OwnS w B v xss) : OwnSH w B w.heap.size v xss := by
 obtain ⟨hl, vs, hr, hi⟩ := h
 exact ⟨hl, vs, hr, hi, hr.lt, fun i x hx => (hi.2.1 i x hx).lt⟩
theorem OwnSH.own {w : World} {B hi : Nat} {v : Value} {xss : List (List Int)} (h : OwnSH w B hi v xss) : OwnS w B v xss := by
 obtain ⟨hl, vs, hr, hi, _⟩ := h
 exact ⟨hl, vs, hr, hi⟩
theorem OwnSH.kp {w w' : World} {B hi : Nat} {v : Value} {xss : List (List Int)} (h : OwnSH w B hi v xss) (k : Kp w w' B hi) : OwnSH w' B hi v xss := by
 obtain ⟨hl, vs, hr, hi, hv, hb⟩ := h
 exact ⟨hl, vs, ownsRow_kp hr hv k, ⟨hi.1, fun i x hx => (OwnH.kp (w := w) ⟨hi.2.1 i x hx, hb i x hx⟩ k).1, hi.2.2⟩, hv, hb⟩
theorem OwnSH.rd {w : World} {B hi : Nat} {a : Option Addr} {n c : Nat} {xss : List (List Int)} (h : OwnSH w B hi (.slice a n c) xss) : RdS w a xss := h.own.rd
def OwnCH (w : World) (B hi : Nat) (v u : Value) (xs : List Int) (xss : List (List Int)) : Prop := ∃ M, B ≤ M ∧ M ≤ hi ∧ OwnH w B M v xs ∧ OwnSH w M hi u xss
theorem OwnC.toH {w : World} {B : Nat} {v u : Value} {xs : List Int} {xss : List (List Int)} (h : OwnC w B v u xs xss) (hM : B ≤ w.heap.size) : OwnCH w B w.heap.size v u xs xss := by
 obtain ⟨M, h1, h2, h3, h4⟩ := h
 by_cases hm : M ≤ w.heap.size
 · exact ⟨M, h1, hm, ⟨h2, h3⟩, h4.toH⟩
 · refine ⟨w.heap.size, hM, Nat.le_refl _, h2.toH, ?_⟩
   obtain ⟨hl, vs, hr, hi⟩ := h4
   have no : ∀ x k, In x M w.heap.size → Value.ownBlock x = some k → False := fun x k h e => by have := h k e; omega
   obtain ⟨r1, r2⟩ := hr
   refine ⟨hl, vs, ⟨r1, ?_⟩, hi.mono (by omega), fun k e => (no _ k (World.ownsRow.lt ⟨r1, r2⟩) e).elim, fun i x hx k e => (no _ k (hi.2.1 i x hx).lt e).elim⟩
   rcases r2 with r2 | ⟨g, cap, cur, e, hb, hg, r⟩
   · exact .inl r2
   · have := (Array.getElem?_eq_some_iff.1 hg).1
     omega
theorem OwnCH.kp {w w' : World} {B hi : Nat} {v u : Value} {xs : List Int} {xss : List (List Int)} (h : OwnCH w B hi v u xs xss) (k : Kp w w' B hi) : OwnCH w' B hi v u xs xss := by
 obtain ⟨M, h1, h2, h3, h4⟩ := h
 exact ⟨M, h1, h2, h3.kp (k.sub (Nat.le_refl _) h2), h4.kp (k.sub h1 (Nat.le_refl _))⟩
theorem OwnCH.rd {w : World} {B hi : Nat} {a b : Option Addr} {n c m d : Nat} {xs : List Int} {xss : List (List Int)} (h : OwnCH w B hi (.slice a n c) (.slice b m d) xs xss) : Rd w a xs := by
 obtain ⟨M, h1, h2, h3, h4⟩ := h
 exact h3.rd
theorem OwnCH.rds {w : World} {B hi : Nat} {a b : Option Addr} {n c m d : Nat} {xs : List Int} {xss : List (List Int)} (h : OwnCH w B hi (.slice a n c) (.slice b m d) xs xss) : RdS w b xss := by
 obtain ⟨M, h1, h2, h3, h4⟩ := h
 exact h4.rd
theorem sum_le_of {ls : List Nat} (h : ∀ n ∈ ls, n ≤ 1073741824) : ls.sum ≤ ls.length * 1073741824 := by
 induction ls with
 | nil => simp
 | cons n ls ih =>
  have h1 := ih (fun m hm => h m (List.mem_cons_of_mem _ hm))
  have h2 := h n List.mem_cons_self
  rw [List.sum_cons, List.length_cons, Nat.add_mul]
  omega
theorem OwnSH.sum {w : World} {B hi : Nat} {v : Value} {xss : List (List Int)} (h : OwnSH w B hi v xss) : (xss.map List.length).sum ≤ 1152921504606846976 := by
 obtain ⟨hl, vs, hr, hin, _⟩ := h
 have h1 : ∀ n ∈ xss.map List.length, n ≤ 1073741824 := by
  intro n hn
  obtain ⟨xs, hx, rfl⟩ := List.mem_map.1 hn
  obtain ⟨i, hi, rfl⟩ := List.getElem_of_mem hx
  have hil : i < vs.length := by rw [hin.1]; exact hi
  have := (hin.2.1 i _ (List.getElem?_eq_getElem hil)).1
  rwa [nthL_lt hi] at this
 have h2 := sum_le_of h1
 rw [List.length_map] at h2
 have h3 : xss.length * 1073741824 ≤ 1073741824 * 1073741824 := Nat.mul_le_mul_right _ hl
 omega
theorem OwnCH.len {w : World} {B hi : Nat} {v u : Value} {xs : List Int} {xss : List (List Int)} (h : OwnCH w B hi v u xs xss) : xs.length ≤ 1073741824 := by
 obtain ⟨M, h1, h2, h3, h4⟩ := h
 exact h3.1.1
theorem OwnCH.sum {w : World} {B hi : Nat} {v u : Value} {xs : List Int} {xss : List (List Int)} (h : OwnCH w B hi v u xs xss) : (xss.map List.length).sum ≤ 1152921504606846976 := by
 obtain ⟨M, h1, h2, h3, h4⟩ := h
 exact h4.sum
def markS (k : Int) : List Nat → List (List Int)
 | [] => []
 | n :: ls => marked k n :: markS (k + n) ls
theorem markS_len (k : Int) (ls : List Nat) : (markS k ls).length = ls.length := by
 induction ls generalizing k with
 | nil => rfl
 | cons n ls ih => simp [markS, ih]
theorem markS_nth (k : Int) (ls : List Nat) (i : Nat) (hi : i < ls.length) : nthL (markS k ls) i = marked (k + ((ls.take i).sum : Nat)) (ls.getD i 0) := by
 induction ls generalizing k i with
 | nil => simp at hi
 | cons n ls ih =>
  rcases i with _ | i
  · simp [markS, nthL]
  · have := ih (k + n) i (by simpa using hi)
    simp only [nthL] at this
    simp only [markS, nthL, List.getD_cons_succ, this, List.take_succ_cons, List.sum_cons]
    congr 1; omega
theorem OwnSH.row {w : World} {B hi : Nat} {v : Value} {yss : List (List Int)} (h : OwnSH w B hi v yss) {i : Nat} (hi' : i < yss.length) :
    ∃ a c, OwnH w B hi (.slice a (nthL yss i).length c) (nthL yss i) ∧
     (∀ b off m d, v = .slice (some ⟨b, off, none⟩) m d → w.cell? ⟨b, off + i, none⟩ = some (.slice a (nthL yss i).length c)) ∧
     ∀ w' ys, OwnH w' B hi (.slice a (nthL yss i).length c) ys → ys.length = (nthL yss i).length → w.grownBy w' (Value.ownBlock (.slice a (nthL yss i).length c)) → OwnSH w' B hi v (yss.set i ys) := by
 obtain ⟨hl, vs, hr, hin, hv, hb⟩ := h
 have hil : i < vs.length := by rw [hin.1]; exact hi'
 have hgi := List.getElem?_eq_getElem hil
 have ho := hin.2.1 i _ hgi
 obtain ⟨a, c, e, _, _⟩ := ho.form
 rw [e] at ho
 have hIn := hb i _ hgi
 rw [e] at hIn hgi
 have hne : ∀ k, Value.ownBlock (.slice a (nthL yss i).length c) = some k → v.ownBlock ≠ some k := Own.notSliceBlock hr ho
 refine ⟨a, c, ⟨ho, hIn⟩, ?_, ?_⟩
 · intro b off m d hvv
   have hr2 := hr
   rcases hr.2 with ⟨rfl, _⟩ | ⟨g, cap, cur, rfl, _⟩
   · injection hvv with h0 _ _; cases h0
   · injection hvv with h0 _ _
     injection h0 with h0
     injection h0 with h1 h2
     subst h1; subst h2
     have := hr2.cellAt i (by omega)
     rw [Nat.zero_add, this, hgi]
 intro w' ys ho' hyl hg
 refine ⟨by simpa using hl, vs, ?_, ⟨by simpa using hin.1, fun j x hx => ?_, hin.2.2⟩, hv, hb⟩
 · rw [List.length_set]
   refine hr.kept hg ?_
   rcases hx : v.ownBlock with _ | k
   · exact .inl rfl
   · exact .inr fun e2 => hne k e2.symm hx
 · by_cases hj : j = i
   · subst hj
     rw [hgi] at hx
     injection hx with hx
     subst hx
     have : nthL (yss.set j ys) j = ys := by simp [nthL, hi']
     rw [this]
     exact ho'.1
   · have : nthL (yss.set i ys) j = nthL yss j := by simp [nthL, List.getD_eq_getElem?_getD, List.getElem?_set_ne (Ne.symm hj)]
     rw [this]
     refine (hin.2.1 j x hx).grow hg ?_
     rcases hxb : x.ownBlock with _ | k
     · exact .inl rfl
     · exact .inr fun e2 => hin.2.2 i j _ _ k (Ne.symm hj) hgi hx e2.symm hxb
end Go.Proofs.YtgfcbmflnldicaaGreat
namespace Go.Proofs.YtgfcbmflnldicaaGreat
open Go.RowKit
theorem Kp.alloc {a b : World} {lo hi : Nat} (h : Kp a b lo hi) (s : hi ≤ b.heap.size) (o : Obj) : Kp a (b.alloc o) lo hi := h.trans (Kp.below ((Below.refl _ _).alloc (Nat.le_refl _) o) s)
theorem Kp.drew {a b : World} {lo hi : Nat} (h : Kp a b lo hi) : Kp a b.drew lo hi := h
theorem Kp.grown {a b c : World} {lo hi : Nat} {row : Option Nat} (h : Kp a b lo hi) (hg : b.grownBy c row) (hne : ∀ k, row = some k → k < lo ∨ hi ≤ k) (s : hi ≤ b.heap.size) : Kp a c lo hi :=
 h.trans ⟨hg.size, fun g h1 h2 => hg.block g (by omega) (fun e => by have := hne g e.symm; omega)⟩
theorem Kp.setCell {a b : World} {lo hi : Nat} (h : Kp a b lo hi) {p : Addr} (hp : p.block < lo ∨ hi ≤ p.block) (v : Value) : Kp a (b.setCell p v) lo hi :=
 ⟨by have := h.1; simpa using this, fun g h1 h2 => (Below.heap_setCell b p v g (by omega)).trans (h.2 g h1 h2)⟩
section
variable {w : World} {B hi : Nat} {v r : Value} {xss : List (List Int)} {xs : List Int}
theorem run_append_row (hown : OwnSH w B hi v xss) (g1 : Nat) (hc : w.cell? ⟨g1, 0, none⟩ = some r) (hr : Own w hi r xs) (hB : B ≤ hi) (hhi : hi ≤ w.heap.size) (hl : xss.length + 1 ≤ 1073741824) (ty : TypeId) :
    ∃ v' w', (Builtin.append_ #[42, 42] ty #[v, .slice (some ⟨g1, 0, none⟩) 1 1]).run Tryz.prog w = .ok v' w' ∧ OwnS w' B v' (xss ++ [xs]) ∧ w.grownBy w' v.ownBlock ∧ (v'.ownBlock = v.ownBlock ∨ v'.ownBlock = some w.heap.size) := by
 obtain ⟨i0, hi0, hz0, hz1, hz2⟩ := info_parts Tryz.info_row
 obtain ⟨hxl, vs, hrow, hin, hv, hb⟩ := hown
 obtain ⟨ar, cr, er, _, _⟩ := hr.form
 obtain ⟨v', w', h1, h2, h3, _, h5⟩ := run_append_own_at (P := Tryz.prog) w B 42 ty 24 i0 (.slice none 0 0) 1 24 Tryz.underlying42 hi0 hz0 hz1 hz2 rfl (by omega) v xss.length vs hrow ⟨g1, 0, none⟩ 1 1 [r] rfl
  (fun j u hu => by
   have hj := (List.getElem?_eq_some_iff.1 hu).1
   simp at hj
   subst hj
   injection hu with hu
   subst hu
   rw [Addr.add_lit]; exact hc)
  (by intro u hu; rw [List.mem_singleton.1 hu, er]; rfl) (by unfold maxLen; omega) (by omega) (by omega)
 refine ⟨v', w', h1, ⟨by simpa using hl, vs ++ [r], by simpa using h2, by simp [hin.1], fun i x hx => ?_, fun i j x y k hij hx hy hk => ?_⟩, h3, h5⟩
 · have grow : ∀ (x : Value) (B' : Nat) (zs : List Int), Own w B' x zs → Own w' B' x zs := fun x B' zs ho => ho.grow h3 (by
     rcases hxb : x.ownBlock with _ | k
     · exact .inl rfl
     · exact .inr fun e => Own.notSliceBlock hrow ho k hxb e.symm)
   rcases Nat.lt_or_ge i vs.length with hi' | hi'
   · rw [List.getElem?_append_left hi'] at hx
     have e : nthL (xss ++ [xs]) i = nthL xss i := by rw [nthL, nthL, List.getD_eq_getElem?_getD, List.getElem?_append_left (by have := hin.1; omega), ← List.getD_eq_getElem?_getD]
     rw [e]
     exact grow _ _ _ (hin.2.1 i x hx)
   · have h2 := (List.getElem?_eq_some_iff.1 hx).1
     simp at h2
     obtain rfl : i = vs.length := by omega
     simp at hx
     subst hx
     have e : nthL (xss ++ [xs]) vs.length = xs := by simp [nthL, hin.1]
     rw [e]
     exact (grow _ _ _ hr).mono hB
 · have old : ∀ (i : Nat) (y : Value) (k : Nat), i < vs.length → (vs ++ [r])[i]? = some y → y.ownBlock = some k → k < hi := fun i y k hi' hy hk => by
     rw [List.getElem?_append_left hi'] at hy
     exact (hb i y hy k hk).2
   have new : ∀ (i : Nat) (y : Value) (k : Nat), ¬ i < vs.length → (vs ++ [r])[i]? = some y → i = vs.length ∧ (y.ownBlock = some k → hi ≤ k) := fun i y k hi' hy => by
    have hi2 := (List.getElem?_eq_some_iff.1 hy).1
    simp at hi2
    obtain rfl : i = vs.length := by omega
    simp at hy
    subst hy
    exact ⟨rfl, fun hk => (hr.lt k hk).1⟩
   intro hyk
   by_cases h1 : i < vs.length <;> by_cases h2 : j < vs.length
   · rw [List.getElem?_append_left h1] at hx
     rw [List.getElem?_append_left h2] at hy
     exact hin.2.2 i j x y k hij hx hy hk hyk
   · have a1 := old i x k h1 hx hk
     have a2 := (new j y k h2 hy).2 hyk
     omega
   · have a1 := old j y k h2 hy hyk
     have a2 := (new i x k h1 hx).2 hk
     omega
   · have a1 := (new i x k h1 hx).1
     have a2 := (new j y k h2 hy).1
     omega
theorem wp_append_row {o : Oper} {a : Act} {K : Act → World → Prop} {Q : Exit → Act → World → Prop} (s x : Operand)
    (ho : o.op = .call { callee := .builtin .append, args := #[s, x], argTypes := #[42, 42] })
    (hs : a.eval s = v) (hown : OwnSH w B hi v xss) (g1 : Nat) (hx : a.eval x = .slice (some ⟨g1, 0, none⟩) 1 1) (hc : w.cell? ⟨g1, 0, none⟩ = some r) (hr : Own w hi r xs) (hB : B ≤ hi) (hhi : hi ≤ w.heap.size) (hl : xss.length + 1 ≤ 1073741824)
    (h : ∀ v' w', OwnS w' B v' (xss ++ [xs]) → w.grownBy w' v.ownBlock → (v'.ownBlock = v.ownBlock ∨ v'.ownBlock = some w.heap.size) → K (a.put o.dst v') w') : Oper.wp Tryz.prog o a w K Q := by
 obtain ⟨v', w', hrun, h2, h3, h4⟩ := run_append_row hown g1 hc hr hB hhi hl o.type
 unfold Oper.wp execOp
 simp only [ho, resolve, invoke, builtin, Sem.run_bind, Sem.run_pure, Result.andThen_ok, List.map_toArray, List.map_cons, List.map_nil, hs, hx, hrun]
 exact h v' w' h2 h3 h4
theorem wpList_append_row {ops : Array Oper} {rest : List Oper} {o : Oper} {a : Act} {Q : Exit → Act → World → Prop} (hgd : o.guard = none) (s x : Operand)
    (ho : o.op = .call { callee := .builtin .append, args := #[s, x], argTypes := #[42, 42] })
    (hs : a.eval s = v) (hown : OwnSH w B hi v xss) (g1 : Nat) (hx : a.eval x = .slice (some ⟨g1, 0, none⟩) 1 1) (hc : w.cell? ⟨g1, 0, none⟩ = some r) (hr : Own w hi r xs) (hB : B ≤ hi) (hhi : hi ≤ w.heap.size) (hl : xss.length + 1 ≤ 1073741824)
    (h : ∀ v' w', OwnS w' B v' (xss ++ [xs]) → w.grownBy w' v.ownBlock → (v'.ownBlock = v.ownBlock ∨ v'.ownBlock = some w.heap.size) → wpList Tryz.prog ops Q rest (a.put o.dst v') w') :
    wpList Tryz.prog ops Q (o :: rest) a w :=
 wpList_plain hgd fun _ hK => wp_append_row s x ho hs hown g1 hx hc hr hB hhi hl fun v' w' h2 h3 h4 => hK _ _ (h v' w' h2 h3 h4)
theorem step_append_row {ops : Array Oper} {o : Oper} {a : Act} {K : Act → World → Prop} {Q : Exit → Act → World → Prop} {E : Prop} (hgd : o.guard = none) (s x : Operand)
    (ho : o.op = .call { callee := .builtin .append, args := #[s, x], argTypes := #[42, 42] })
    (hs : a.eval s = v) (hown : OwnSH w B hi v xss) (g1 : Nat) (hx : a.eval x = .slice (some ⟨g1, 0, none⟩) 1 1) (hc : w.cell? ⟨g1, 0, none⟩ = some r) (hr : Own w hi r xs) (hB : B ≤ hi) (hhi : hi ≤ w.heap.size) (hl : xss.length + 1 ≤ 1073741824)
    (h : ∀ v' w', OwnS w' B v' (xss ++ [xs]) → w.grownBy w' v.ownBlock → (v'.ownBlock = v.ownBlock ∨ v'.ownBlock = some w.heap.size) → K (a.put o.dst v') w') :
    if Region.wanted o (yielded ops a.tmps) = true then Oper.wp Tryz.prog o a w K Q else E := by
 have hw : Region.wanted o (yielded ops a.tmps) = true := by simp [Region.wanted, hgd]
 rw [if_pos hw]
 exact wp_append_row s x ho hs hown g1 hx hc hr hB hhi hl h
end
end Go.Proofs.YtgfcbmflnldicaaGreat
namespace Go.Proofs.YtgfcbmflnldicaaGreat
open Go.RowKit
section
variable {w : World} {B hi g n c : Nat} {v : Value} {yss : List (List Int)}
theorem OwnS.row (h : OwnS w B v yss) {i : Nat} (hi : i < yss.length) :
    ∃ a c, Own w B (.slice a (nthL yss i).length c) (nthL yss i) ∧
     (∀ b off m d, v = .slice (some ⟨b, off, none⟩) m d → w.cell? ⟨b, off + i, none⟩ = some (.slice a (nthL yss i).length c)) ∧
     ∀ w' ys, Own w' B (.slice a (nthL yss i).length c) ys → ys.length = (nthL yss i).length → w.grownBy w' (Value.ownBlock (.slice a (nthL yss i).length c)) → OwnS w' B v (yss.set i ys) := by
 obtain ⟨a, c, h1, h2, h3⟩ := h.toH.row hi
 exact ⟨a, c, h1.1, h2, fun w' ys ho hl hg => (h3 w' ys ⟨ho, h1.2⟩ hl hg).own⟩
theorem OwnS.at_ (h : OwnS w B v yss) (h0 : 0 < yss.length) : ∃ g c, v = .slice (some ⟨g, 0, none⟩) yss.length c ∧ B ≤ g ∧ g < w.heap.size ∧ yss.length ≤ c ∧ c ≤ 9223372036854775807 := by
 obtain ⟨hl, vs, hr, hin⟩ := h
 rcases hr.2 with ⟨_, h1⟩ | ⟨g, cap, cur, rfl, hb, hg, hn, hm, hs, ht⟩
 · omega
 · unfold maxLen at hm
   exact ⟨g, cap, rfl, hb, (Array.getElem?_eq_some_iff.1 hg).1, hn, by omega⟩
theorem OwnS.frozen (h : OwnS w B (.slice (some ⟨g, 0, none⟩) n c) yss) (j : Nat) : w.frozen? ⟨g, j, none⟩ = false := by
 have e := h.len
 obtain ⟨hl, vs, hr, hin⟩ := h
 subst e
 exact hr.frozenAt j
theorem row_grow {w' : World} {m : Nat} {vs : List Value} {x : Value} {xs : List Int} (hr : w.ownsRow B 24 1 v m vs) (hg : w.grownBy w' v.ownBlock) {B2 : Nat} (ho : Own w B2 x xs) : Own w' B2 x xs :=
 ho.grow hg (by
  rcases hxb : x.ownBlock with _ | k
  · exact .inl rfl
  · exact .inr fun e => Own.notSliceBlock hr ho k hxb e.symm)
theorem nthL_set_same {xss : List (List Int)} {i : Nat} (h : i < xss.length) (v : List Int) : nthL (xss.set i v) i = v := by simp [nthL, h]
theorem nthL_set_ne {xss : List (List Int)} {i j : Nat} (h : i ≠ j) (v : List Int) : nthL (xss.set i v) j = nthL xss j := by
 simp [nthL, List.getD_eq_getElem?_getD, List.getElem?_set_ne h]
theorem OwnSH.put (h : OwnSH w B hi (.slice (some ⟨g, 0, none⟩) n c) yss) {r : Value} {ys : List Int} (hr : Own w hi r ys) (hB : B ≤ hi) {j : Nat} (hj : j < yss.length) :
    OwnS (w.setCell ⟨g, j, none⟩ r) B (.slice (some ⟨g, 0, none⟩) n c) (yss.set j ys) ∧ w.grownBy (w.setCell ⟨g, j, none⟩ r) (some g) := by
 have e := h.own.len
 subst e
 obtain ⟨hl, vs, ho, hin, hv, hb⟩ := h
 obtain ⟨h1, h2⟩ := ho.stored j r
 have row : ∀ (x : Value) (B2 : Nat) (xs : List Int), Own w B2 x xs → Own (w.setCell ⟨g, j, none⟩ r) B2 x xs := fun x B2 xs hx => row_grow ho h2 hx
 refine ⟨⟨by simpa using hl, vs.set j r, by rw [List.length_set]; exact h1, by simp [hin.1], fun i x hx => ?_, fun i k x y b hik hx hy hxb hyb => ?_⟩, h2⟩
 · by_cases e : i = j
   · subst e
     rw [List.getElem?_set_self (by rw [hin.1]; exact hj)] at hx
     injection hx with hx
     subst hx
     rw [nthL_set_same hj]
     exact (row _ _ _ hr).mono hB
   · rw [List.getElem?_set_ne (Ne.symm e)] at hx
     rw [nthL_set_ne (Ne.symm e)]
     exact row _ _ _ (hin.2.1 i x hx)
 · have cas : ∀ (q : Nat) (z : Value), (vs.set j r)[q]? = some z → (q = j ∧ z = r) ∨ (q ≠ j ∧ vs[q]? = some z) := fun q z hz => by
     by_cases e : q = j
     · subst e
       rw [List.getElem?_set_self (by rw [hin.1]; exact hj)] at hz
       injection hz with hz
       exact .inl ⟨rfl, hz.symm⟩
     · rw [List.getElem?_set_ne (Ne.symm e)] at hz
       exact .inr ⟨e, hz⟩
   rcases cas i x hx with ⟨e1, e2⟩ | ⟨e1, e2⟩ <;> rcases cas k y hy with ⟨f1, f2⟩ | ⟨f1, f2⟩
   · omega
   · subst e2
     have a1 := (hr.lt b hxb).1
     have a2 := (hb k y f2 b hyb).2
     omega
   · subst f2
     have a1 := (hr.lt b hyb).1
     have a2 := (hb i x e2 b hxb).2
     omega
   · exact hin.2.2 i k x y b hik e2 f2 hxb hyb
theorem OwnS.swap (h : OwnS w B (.slice (some ⟨g, 0, none⟩) n c) yss) {i j : Nat} (hi : i < yss.length) (hj : j < yss.length) (hij : i ≠ j) {x y : Value} (hx : w.cell? ⟨g, i, none⟩ = some x) (hy : w.cell? ⟨g, j, none⟩ = some y) :
    OwnS ((w.setCell ⟨g, i, none⟩ y).setCell ⟨g, j, none⟩ x) B (.slice (some ⟨g, 0, none⟩) n c) ((yss.set i (nthL yss j)).set j (nthL yss i)) ∧ w.grownBy ((w.setCell ⟨g, i, none⟩ y).setCell ⟨g, j, none⟩ x) (some g) := by
 have e := h.len
 subst e
 obtain ⟨hl, vs, ho, hin⟩ := h
 have vx : vs[i]? = some x := by rw [← ho.cellAt i (by omega)]; exact hx
 have vy : vs[j]? = some y := by rw [← ho.cellAt j (by omega)]; exact hy
 obtain ⟨h1, h2⟩ := ho.stored i y
 obtain ⟨h3, h4⟩ := h1.stored j x
 have row : ∀ (z : Value) (B2 : Nat) (xs : List Int), Own w B2 z xs → Own ((w.setCell ⟨g, i, none⟩ y).setCell ⟨g, j, none⟩ x) B2 z xs := fun z B2 xs hz => row_grow h1 h4 (row_grow ho h2 hz)
 have hil : i < vs.length := by rw [hin.1]; exact hi
 have hjl : j < vs.length := by rw [hin.1]; exact hj
 -- which row stands where
 have cas : ∀ (q : Nat) (z : Value), ((vs.set i y).set j x)[q]? = some z → ∃ q', vs[q']? = some z ∧ ((q = j ∧ q' = i) ∨ (q = i ∧ q ≠ j ∧ q' = j) ∨ (q ≠ i ∧ q ≠ j ∧ q' = q)) := fun q z hz => by
  by_cases e : q = j
  · subst e
    rw [List.getElem?_set_self (by rw [List.length_set]; exact hjl)] at hz
    injection hz with hz
    subst hz
    exact ⟨i, vx, .inl ⟨rfl, rfl⟩⟩
  · rw [List.getElem?_set_ne (Ne.symm e)] at hz
    by_cases e2 : q = i
    · subst e2
      rw [List.getElem?_set_self hil] at hz
      injection hz with hz
      subst hz
      exact ⟨j, vy, .inr (.inl ⟨rfl, e, rfl⟩)⟩
    · rw [List.getElem?_set_ne (Ne.symm e2)] at hz
      exact ⟨q, hz, .inr (.inr ⟨e2, e, rfl⟩)⟩
 refine ⟨⟨by simpa using hl, (vs.set i y).set j x, by simpa using h3, by simp [hin.1], fun q z hz => ?_, fun q k z u b hqk hz hu hzb hub => ?_⟩, grown_trans_row h2 h4⟩
 · obtain ⟨q', hq, hc⟩ := cas q z hz
   have o := row _ _ _ (hin.2.1 q' z hq)
   rcases hc with ⟨rfl, rfl⟩ | ⟨rfl, hne, rfl⟩ | ⟨h1, h2, rfl⟩
   · rw [nthL_set_same (by rw [List.length_set]; exact hj)]; exact o
   · rw [nthL_set_ne (Ne.symm hne), nthL_set_same hi]; exact o
   · rw [nthL_set_ne (Ne.symm h2), nthL_set_ne (Ne.symm h1)]; exact o
 · obtain ⟨q', hq, hc⟩ := cas q z hz
   obtain ⟨k', hk, hd⟩ := cas k u hu
   exact hin.2.2 q' k' z u b (by omega) hq hk hzb hub
theorem OwnSH.put2 (h : OwnSH w B hi (.slice (some ⟨g, 0, none⟩) n c) yss) {r y : Value} {ys : List Int} (hr : Own w hi r ys) (hB : B ≤ hi) {i t : Nat} (hi' : i < yss.length) (ht : t < yss.length) (hy : w.cell? ⟨g, t, none⟩ = some y) :
    OwnS ((w.setCell ⟨g, i, none⟩ y).setCell ⟨g, t, none⟩ r) B (.slice (some ⟨g, 0, none⟩) n c) ((yss.set i (nthL yss t)).set t ys) ∧ w.grownBy ((w.setCell ⟨g, i, none⟩ y).setCell ⟨g, t, none⟩ r) (some g) := by
 have e := h.own.len
 subst e
 obtain ⟨hl, vs, ho, hin, hv, hb⟩ := h
 have vy : vs[t]? = some y := by rw [← ho.cellAt t (by omega)]; exact hy
 obtain ⟨h1, h2⟩ := ho.stored i y
 obtain ⟨h3, h4⟩ := h1.stored t r
 have row : ∀ (z : Value) (B2 : Nat) (xs : List Int), Own w B2 z xs → Own ((w.setCell ⟨g, i, none⟩ y).setCell ⟨g, t, none⟩ r) B2 z xs := fun z B2 xs hz => row_grow h1 h4 (row_grow ho h2 hz)
 have hil : i < vs.length := by rw [hin.1]; exact hi'
 have htl : t < vs.length := by rw [hin.1]; exact ht
 have cas : ∀ (q : Nat) (z : Value), ((vs.set i y).set t r)[q]? = some z → (q = t ∧ z = r) ∨ ∃ q', vs[q']? = some z ∧ q ≠ t ∧ ((q = i ∧ q' = t) ∨ (q ≠ i ∧ q' = q)) := fun q z hz => by
  by_cases e : q = t
  · subst e
    rw [List.getElem?_set_self (by rw [List.length_set]; exact htl)] at hz
    injection hz with hz
    exact .inl ⟨rfl, hz.symm⟩
  · rw [List.getElem?_set_ne (Ne.symm e)] at hz
    by_cases e2 : q = i
    · subst e2
      rw [List.getElem?_set_self hil] at hz
      injection hz with hz
      subst hz
      exact .inr ⟨t, vy, e, .inl ⟨rfl, rfl⟩⟩
    · rw [List.getElem?_set_ne (Ne.symm e2)] at hz
      exact .inr ⟨q, hz, e, .inr ⟨e2, rfl⟩⟩
 refine ⟨⟨by simpa using hl, (vs.set i y).set t r, by simpa using h3, by simp [hin.1], fun q z hz => ?_, fun q k z u b hqk hz hu hzb hub => ?_⟩, grown_trans_row h2 h4⟩
 · rcases cas q z hz with ⟨rfl, rfl⟩ | ⟨q', hq, hne, hc⟩
   · rw [nthL_set_same (by rw [List.length_set]; exact ht)]
     exact (row _ _ _ hr).mono hB
   · have o := row _ _ _ (hin.2.1 q' z hq)
     rcases hc with ⟨rfl, rfl⟩ | ⟨h1, rfl⟩
     · rw [nthL_set_ne (Ne.symm hne), nthL_set_same hi']; exact o
     · rw [nthL_set_ne (Ne.symm hne), nthL_set_ne (Ne.symm h1)]; exact o
 · rcases cas q z hz with ⟨rfl, rfl⟩ | ⟨q', hq, hne, hc⟩ <;> rcases cas k u hu with ⟨rfl, rfl⟩ | ⟨k', hk, hke, hd⟩
   · omega
   · have a1 := (hr.lt b hzb).1
     have a2 := (hb k' u hk b hub).2
     omega
   · have a1 := (hr.lt b hub).1
     have a2 := (hb q' z hq b hzb).2
     omega
   · exact hin.2.2 q' k' z u b (by omega) hq hk hzb hub
theorem OwnS.inn (h : OwnS w B v yss) : In v B w.heap.size := by
 obtain ⟨_, vs, hr, _⟩ := h
 exact hr.lt
theorem Below.stepS {C : Nat} {a w' : World} (h : Below C a w) (hg : w.grownBy w' v.ownBlock) (ho : OwnS w B v yss) (hBo : C ≤ B) (hB : C ≤ w.heap.size) : Below C a w' :=
 h.grown hg hB (fun k hk => by have := (ho.inn k hk).1; omega)
theorem OwnS.take (h : OwnS w B (.slice (some ⟨g, 0, none⟩) n c) yss) {m : Nat} (hm : m ≤ n) : OwnS w B (.slice (some ⟨g, 0, none⟩) m c) (yss.take m) := by
 have e := h.len
 subst e
 obtain ⟨hl, vs, ⟨h1, h3⟩, hin⟩ := h
 have hml : (yss.take m).length = m := by rw [List.length_take]; omega
 refine ⟨by rw [hml]; omega, vs.take m, ?_, by rw [List.length_take, hml, hin.1]; omega, fun i x hx => ?_, fun i j x y b hij hx hy hxb => ?_⟩
 · rw [hml]
   refine ⟨by rw [List.length_take, hin.1]; omega, .inr ?_⟩
   rcases h3 with ⟨e, _⟩ | ⟨g', cap, cur, e, hb, hg, hn, hcm, hs, ht⟩
   · cases e
   · injection e with e1 e2 e3
     injection e1 with e1
     injection e1 with e1
     subst e1
     subst e3
     refine ⟨g, c, cur, rfl, hb, hg, by omega, hcm, hs, ?_⟩
     rw [← ht, List.take_take]
     congr 1
     omega
 · have hi : i < m := by
     have := (List.getElem?_eq_some_iff.1 hx).1
     rw [List.length_take] at this
     omega
   rw [List.getElem?_take_of_lt hi] at hx
   rw [nthL_take hi]
   exact hin.2.1 i x hx
 · have lt : ∀ (q : Nat) (z : Value), (vs.take m)[q]? = some z → vs[q]? = some z := fun q z hz => by
     have hq : q < m := by
      have := (List.getElem?_eq_some_iff.1 hz).1
      rw [List.length_take] at this
      omega
     rwa [List.getElem?_take_of_lt hq] at hz
   exact hin.2.2 i j x y b hij (lt i x hx) (lt j y hy) hxb
end
end Go.Proofs.YtgfcbmflnldicaaGreat
namespace Go.Proofs.YtgfcbmflnldicaaGreat
open Go.RowKit
section
variable {w : World} {B : Nat} {v : Value} {xs ys : List Int}
theorem run_append_ints (hown : Own w B v xs) (ad : Option Addr) (m c : Nat) (hm : m = ys.length) (hr : Rd w ad ys) (hl : xs.length + ys.length ≤ 1073741824) (hB : B ≤ w.heap.size) (ty : TypeId) :
    ∃ v' w', (Builtin.append_ #[24, 24] ty #[v, .slice ad m c]).run Tryz.prog w = .ok v' w' ∧ Own w' B v' (xs ++ ys) ∧ w.grownBy w' v.ownBlock ∧ (v'.ownBlock = v.ownBlock ∨ v'.ownBlock = some w.heap.size) := by
 obtain ⟨i0, hi0, hz0, hz1, hz2⟩ := info_parts Tryz.info_i64
 rcases Nat.eq_zero_or_pos ys.length with h0 | h0
 · have hy : ys = [] := List.eq_nil_of_length_eq_zero h0
   subst hy
   simp only [List.length_nil] at hm
   subst hm
   refine ⟨v, w, ?_, by simpa using hown, World.grownBy.refl w _, .inl rfl⟩
   rcases hown.2.2 with ⟨rfl, h0⟩ | ⟨g, cap, cur, rfl, _, _, hnc, _⟩
   · cases ad <;> simp [Builtin.append_, run_underlying Tryz.underlying24, sizeOf, typeInfo, hi0, Builtin.lenOf, Builtin.firstCells, loadCells, loadCellsFrom]
   · cases ad <;> simp [Builtin.append_, run_underlying Tryz.underlying24, sizeOf, typeInfo, hi0, Builtin.lenOf, Builtin.firstCells, hnc, storeCells, loadCells, loadCellsFrom]
 · obtain ⟨b, off, rfl, _, hc⟩ := hr.at_ h0
   obtain ⟨v', w', h1, h2, h3, _, h5⟩ := run_append_own_at (P := Tryz.prog) w B 24 ty 2 i0 (.int .i64 0) 1 8 Tryz.underlying24 hi0 hz0 hz1 hz2 rfl (by omega) v xs.length (xs.map (Value.int .i64)) hown.2 ⟨b, off, none⟩ m c (ys.map (Value.int .i64)) (by simp [hm])
    (fun j u hu => by
     have hj : j < ys.length := by
      have := (List.getElem?_eq_some_iff.1 hu).1
      simpa using this
     rw [Addr.add_lit, hc j hj, ← hu, List.getElem?_map, List.getElem?_eq_getElem hj, nth_lt hj]; rfl)
    (ints_oneCell _ _) (by unfold maxLen; omega) (by omega) hB
   exact ⟨v', w', h1, ⟨by simpa using hl, by rw [List.map_append, List.length_append, ← hm]; exact h2⟩, h3, h5⟩
theorem wp_append_ints {o : Oper} {a : Act} {K : Act → World → Prop} {Q : Exit → Act → World → Prop} (s x : Operand)
    (ho : o.op = .call { callee := .builtin .append, args := #[s, x], argTypes := #[24, 24] })
    (hs : a.eval s = v) (hown : Own w B v xs) (ad : Option Addr) (m c : Nat) (hx : a.eval x = .slice ad m c) (hm : m = ys.length) (hr : Rd w ad ys) (hl : xs.length + ys.length ≤ 1073741824) (hB : B ≤ w.heap.size)
    (h : ∀ v' w', Own w' B v' (xs ++ ys) → w.grownBy w' v.ownBlock → (v'.ownBlock = v.ownBlock ∨ v'.ownBlock = some w.heap.size) → K (a.put o.dst v') w') : Oper.wp Tryz.prog o a w K Q := by
 obtain ⟨v', w', hrun, h2, h3, h4⟩ := run_append_ints hown ad m c hm hr hl hB o.type
 unfold Oper.wp execOp
 simp only [ho, resolve, invoke, builtin, Sem.run_bind, Sem.run_pure, Result.andThen_ok, List.map_toArray, List.map_cons, List.map_nil, hs, hx, hrun]
 exact h v' w' h2 h3 h4
theorem step_append_ints {ops : Array Oper} {o : Oper} {a : Act} {K : Act → World → Prop} {Q : Exit → Act → World → Prop} {E : Prop} (hgd : o.guard = none) (s x : Operand)
    (ho : o.op = .call { callee := .builtin .append, args := #[s, x], argTypes := #[24, 24] })
    (hs : a.eval s = v) (hown : Own w B v xs) (ad : Option Addr) (m c : Nat) (hx : a.eval x = .slice ad m c) (hm : m = ys.length) (hr : Rd w ad ys) (hl : xs.length + ys.length ≤ 1073741824) (hB : B ≤ w.heap.size)
    (h : ∀ v' w', Own w' B v' (xs ++ ys) → w.grownBy w' v.ownBlock → (v'.ownBlock = v.ownBlock ∨ v'.ownBlock = some w.heap.size) → K (a.put o.dst v') w') :
    if Region.wanted o (yielded ops a.tmps) = true then Oper.wp Tryz.prog o a w K Q else E := by
 have hw : Region.wanted o (yielded ops a.tmps) = true := by simp [Region.wanted, hgd]
 rw [if_pos hw]
 exact wp_append_ints s x ho hs hown ad m c hx hm hr hl hB h
end
end Go.Proofs.YtgfcbmflnldicaaGreat
namespace Go.Proofs.YtgfcbmflnldicaaGreat
open Go.RowKit
theorem OwnSH.belw {w w' : World} {B hi : Nat} {v : Value} {xss : List (List Int)} (h : OwnSH w B hi v xss) (hb : Below w.heap.size w w') (hh : hi ≤ w.heap.size) : OwnSH w' B hi v xss := h.kp (Kp.below hb hh)
theorem copyLists_any (a : Option Addr) (c : Nat) (xss : List (List Int)) (w : World) (hx : RdS w a xss) :
    Calls Tryz.prog 94 #[.slice a xss.length c] w fun e w' => ∃ v, e = .returned v ∧ OwnS w' w.heap.size v xss ∧ Below w.heap.size w w' := by
 have hxl := hx.len
 go_enter Tryz.func94, Tryz.ntmps94
 go_wp2
 go_loopw [3, 8] (fun v iv wr => ∃ (k : Nat), iv = .int .i64 k ∧ k ≤ xss.length ∧ Hid (OwnS wr w.heap.size v (xss.take k)) ∧ Below w.heap.size w wr) (fun _ iv _ => xss.length - (intOf iv).toNat)
 case atStart => exact ⟨0, rfl, Nat.zero_le _, OwnS.nil _ _, Below.refl _ _⟩
 case round =>
  obtain ⟨k, rfl, hk, ho, hb⟩ := hrel
  have hsz := hb.size
  by_cases hkl : k < xss.length
  · obtain ⟨b1, o1, rfl, _, hc⟩ := (hx.below hb).at_ (by omega)
    obtain ⟨ai, ci, h1, hr⟩ := hc k hkl
    have htk := take_nthL hkl
    have htl : (xss.take k).length = k := by rw [List.length_take]; omega
    generalize nthL xss k = row at h1 hr htk
    have HTK := Lib.hid htk
    have HTL := Lib.hid htl
    clear hc htk htl
    go_wp2_with fail
    refine (clone_any ai ci row wr hr).mono ?_
    rintro e w1 ⟨v1, rfl, o1, b1⟩
    obtain ⟨a1, c1, rfl, _, _⟩ := o1.form
    have hH := ho.out.toH.belw b1 (Nat.le_refl _)
    have hs1 := b1.size
    have hb1 := hb.trans (b1.mono hsz)
    go_wp2_with (at_builtin; refine wpList_append_row rfl (.tmp 12) (.tmp 15) rfl (v := u3) rfl (hH.belw ((Below.refl _ _).alloc (Nat.le_refl _) _) hs1) _ rfl ((Blk.new w1 24 #[.slice a1 row.length c1] rfl).cell 0) (o1.alloc _) hsz (by simp; omega) (by rw [HTL.out]; omega) ?_; intro v2 w2 o2 g2 _)
    go_roundw
    case rel =>
     refine ⟨k + 1, by go_num, by omega, ?_, Below.stepS (hb1.alloc (by omega) _) g2 (hH.belw ((Below.refl _ _).alloc (Nat.le_refl _) _) hs1).own (Nat.le_refl _) (by simp; omega)⟩
     show OwnS _ _ _ _
     rw [HTK.out]
     exact o2
    case measure => simp only [intOf]; omega
  · have hke : k = xss.length := by omega
    have HE := Lib.hid hke
    clear hke
    go_wp2
    go_ret
    exact ⟨_, rfl, by have o := ho.out; rw [HE.out, List.take_length] at o; exact o, hb⟩
theorem l17Own_any (a : Option Addr) (c : Nat) (xss : List (List Int)) (w : World) (hx : RdS w a xss) :
    Calls Tryz.prog 165 #[.slice a xss.length c] w fun e w' => ∃ v, e = .returned v ∧ OwnS w' w.heap.size v xss ∧ Below w.heap.size w w' := by
 have hxl := hx.len
 go_enter Tryz.func165, Tryz.ntmps165
 go_wp2
 go_loopw [3, 4] (fun v iv wr => ∃ (k : Nat), iv = .int .i64 k ∧ k ≤ xss.length ∧ Hid (OwnS wr w.heap.size v (xss.take k)) ∧ Below w.heap.size w wr) (fun _ iv _ => xss.length - (intOf iv).toNat)
 case atStart => exact ⟨0, rfl, Nat.zero_le _, OwnS.empty w (Nat.le_refl _), (Below.refl _ _).alloc (Nat.le_refl _) _⟩
 case round =>
  obtain ⟨k, rfl, hk, ho, hb⟩ := hrel
  have hsz := hb.size
  by_cases hkl : k < xss.length
  · obtain ⟨b1, o1, rfl, _, hc⟩ := (hx.below hb).at_ (by omega)
    obtain ⟨ai, ci, h1, hr⟩ := hc k hkl
    have htk := take_nthL hkl
    have htl : (xss.take k).length = k := by rw [List.length_take]; omega
    generalize nthL xss k = row at h1 hr htk
    have HTK := Lib.hid htk
    have HTL := Lib.hid htl
    clear hc htk htl
    go_wp2_with fail
    refine (l00Own_any ai ci row wr hr).mono ?_
    rintro e w1 ⟨v1, rfl, o1, b1⟩
    obtain ⟨a1, c1, rfl, _, _⟩ := o1.form
    have hH := ho.out.toH.belw b1 (Nat.le_refl _)
    have hs1 := b1.size
    have hb1 := hb.trans (b1.mono hsz)
    go_wp2_with (at_builtin; refine wpList_append_row rfl (.tmp 12) (.tmp 18) rfl (v := u3) rfl (hH.belw ((Below.refl _ _).alloc (Nat.le_refl _) _) hs1) _ rfl ((Blk.new w1 24 #[.slice a1 row.length c1] rfl).cell 0) (o1.alloc _) hsz (by simp; omega) (by rw [HTL.out]; omega) ?_; intro v2 w2 o2 g2 _)
    go_roundw
    case rel =>
     refine ⟨k + 1, by go_num, by omega, ?_, Below.stepS (hb1.alloc (by omega) _) g2 (hH.belw ((Below.refl _ _).alloc (Nat.le_refl _) _) hs1).own (Nat.le_refl _) (by simp; omega)⟩
     show OwnS _ _ _ _
     rw [HTK.out]
     exact o2
    case measure => simp only [intOf]; omega
  · have hke : k = xss.length := by omega
    have HE := Lib.hid hke
    clear hke
    go_wp2
    go_ret
    exact ⟨_, rfl, by have o := ho.out; rw [HE.out, List.take_length] at o; exact o, hb⟩
end Go.Proofs.YtgfcbmflnldicaaGreat
namespace Go.Proofs.YtgfcbmflnldicaaGreat
open Go.RowKit
def OwnSQ (w : World) (B : Nat) (v : Value) (xss : List (List Int)) (Q : Value → Prop) : Prop :=
 xss.length ≤ 1073741824 ∧ ∃ vs : List Value, w.ownsRow B 24 1 v xss.length vs ∧ Inner w B vs xss ∧ ∀ (i : Nat) (x : Value), vs[i]? = some x → Q x
section
variable {w w' : World} {B hi g n c : Nat} {v : Value} {yss : List (List Int)} {Q Q' : Value → Prop}
theorem OwnSQ.own (h : OwnSQ w B v yss Q) : OwnS w B v yss := by
 obtain ⟨hl, vs, hr, hin, _⟩ := h
 exact ⟨hl, vs, hr, hin⟩
theorem OwnSQ.imp (h : OwnSQ w B v yss Q) (hq : ∀ x, (∀ k, x.ownBlock = some k → k < w.heap.size) → Q x → Q' x) : OwnSQ w B v yss Q' := by
 obtain ⟨hl, vs, hr, hin, hQ⟩ := h
 exact ⟨hl, vs, hr, hin, fun i x hx => hq x (fun k hk => ((hin.2.1 i x hx).lt k hk).2) (hQ i x hx)⟩
theorem OwnS.toQ (h : OwnS w B v yss) (hq : ∀ x, (∀ k, x.ownBlock = some k → B ≤ k ∧ k < w.heap.size) → Q x) : OwnSQ w B v yss Q := by
 obtain ⟨hl, vs, hr, hin⟩ := h
 exact ⟨hl, vs, hr, hin, fun i x hx => hq x (fun k hk => (hin.2.1 i x hx).lt k hk)⟩
theorem OwnSQ.below (h : OwnSQ w B v yss Q) (hb : Below w.heap.size w w') : OwnSQ w' B v yss Q := by
 obtain ⟨hl, vs, hr, hin, hQ⟩ := h
 exact ⟨hl, vs, ownsRow_below hr hb (Nat.le_refl _), hin.below hb (Nat.le_refl _), hQ⟩
theorem OwnSQ.grow (h : OwnSQ w B v yss Q) {u : Value} {B' : Nat} {us : List Int} (hu : Own w B' u us) (hg : w.grownBy w' u.ownBlock) (hq : ∀ x, Q x → ∀ k, x.ownBlock = some k → u.ownBlock ≠ some k) : OwnSQ w' B v yss Q := by
 obtain ⟨hl, vs, hr, hin, hQ⟩ := h
 refine ⟨hl, vs, hr.kept hg ?_, ⟨hin.1, fun i x hx => (hin.2.1 i x hx).grow hg ?_, hin.2.2⟩, hQ⟩
 · rcases hub : u.ownBlock with _ | k
   · rcases hv : v.ownBlock with _ | k
     · exact .inl rfl
     · exact .inr (by simp)
   · refine .inr fun e => ?_
     exact Own.notSliceBlock hr hu k hub e
 · rcases hxb : x.ownBlock with _ | k
   · exact .inl rfl
   · exact .inr fun e => hq x (hQ i x hx) k hxb e.symm
theorem OwnSQ.row (h : OwnSQ w B v yss Q) {i : Nat} (hi : i < yss.length) :
    ∃ a c, Own w B (.slice a (nthL yss i).length c) (nthL yss i) ∧ Q (.slice a (nthL yss i).length c) ∧
     (∀ b off m d, v = .slice (some ⟨b, off, none⟩) m d → w.cell? ⟨b, off + i, none⟩ = some (.slice a (nthL yss i).length c)) ∧
     (∀ w' ys, Own w' B (.slice a (nthL yss i).length c) ys → ys.length = (nthL yss i).length → w.grownBy w' (Value.ownBlock (.slice a (nthL yss i).length c)) → OwnSQ w' B v (yss.set i ys) Q) ∧
     (∀ j a' c', j < yss.length → j ≠ i → (∀ b off m d, v = .slice (some ⟨b, off, none⟩) m d → w.cell? ⟨b, off + j, none⟩ = some (.slice a' (nthL yss j).length c')) → v.ownBlock ≠ none → ∀ k, Value.ownBlock (.slice a' (nthL yss j).length c') = some k → Value.ownBlock (.slice a (nthL yss i).length c) ≠ some k) := by
 obtain ⟨hl, vs, hr, hin, hQ⟩ := h
 have hil : i < vs.length := by rw [hin.1]; exact hi
 have hgi := List.getElem?_eq_getElem hil
 have ho := hin.2.1 i _ hgi
 obtain ⟨a, c, e, _, _⟩ := ho.form
 rw [e] at ho hgi
 have hne : ∀ k, Value.ownBlock (.slice a (nthL yss i).length c) = some k → v.ownBlock ≠ some k := Own.notSliceBlock hr ho
 have cellv : ∀ (q : Nat) (b off m d : Nat), q < vs.length → v = .slice (some ⟨b, off, none⟩) m d → w.cell? ⟨b, off + q, none⟩ = vs[q]? := by
  intro q b off m d hq hvv
  have hr2 := hr
  rcases hr.2 with ⟨rfl, _⟩ | ⟨g, cap, cur, rfl, _⟩
  · injection hvv with h0 _ _; cases h0
  · injection hvv with h0 _ _
    injection h0 with h0
    injection h0 with h1 h2
    subst h1; subst h2
    rw [Nat.zero_add]
    exact hr2.cellAt q (by have := hin.1; omega)
 refine ⟨a, c, ho, hQ i _ hgi, fun b off m d hvv => by rw [cellv i b off m d hil hvv, hgi], ?_, ?_⟩
 · intro w' ys ho' hyl hg
   refine ⟨by simpa using hl, vs, ?_, ⟨by simpa using hin.1, fun j x hx => ?_, hin.2.2⟩, hQ⟩
   · rw [List.length_set]
     refine hr.kept hg ?_
     rcases hx : v.ownBlock with _ | k
     · exact .inl rfl
     · exact .inr fun e2 => hne k e2.symm hx
   · by_cases hj : j = i
     · subst hj
       rw [hgi] at hx
       injection hx with hx
       subst hx
       rw [nthL_set_same hi]
       exact ho'
     · rw [nthL_set_ne (Ne.symm hj)]
       refine (hin.2.1 j x hx).grow hg ?_
       rcases hxb : x.ownBlock with _ | k
       · exact .inl rfl
       · exact .inr fun e2 => hin.2.2 i j _ _ k (Ne.symm hj) hgi hx e2.symm hxb
 · intro j a' c' hj hji hcell hv0 k hk hk2
   have hjl : j < vs.length := by rw [hin.1]; exact hj
   rcases hr.2 with ⟨rfl, h0⟩ | ⟨g, cap, cur, rfl, _⟩
   · exact hv0 rfl
   · have h1 := hcell g 0 _ _ rfl
     rw [cellv j g 0 _ _ hjl rfl] at h1
     exact hin.2.2 i j _ _ k (Ne.symm hji) hgi h1 hk2 hk
theorem OwnSQ.put (h : OwnSQ w B (.slice (some ⟨g, 0, none⟩) n c) yss Q) {r : Value} {ys : List Int} (hr : Own w hi r ys) (hB : B ≤ hi)
    (hlow : ∀ x, Q x → ∀ k, x.ownBlock = some k → k < hi) (hq : Q' r) (hQQ : ∀ x, Q x → Q' x) {j : Nat} (hj : j < yss.length) :
    OwnSQ (w.setCell ⟨g, j, none⟩ r) B (.slice (some ⟨g, 0, none⟩) n c) (yss.set j ys) Q' ∧ w.grownBy (w.setCell ⟨g, j, none⟩ r) (some g) := by
 have e := h.own.len
 subst e
 obtain ⟨hl, vs, ho, hin, hQ⟩ := h
 obtain ⟨h1, h2⟩ := ho.stored j r
 have row : ∀ (x : Value) (B2 : Nat) (xs : List Int), Own w B2 x xs → Own (w.setCell ⟨g, j, none⟩ r) B2 x xs := fun x B2 xs hx => row_grow ho h2 hx
 have cas : ∀ (q : Nat) (z : Value), (vs.set j r)[q]? = some z → (q = j ∧ z = r) ∨ (q ≠ j ∧ vs[q]? = some z) := fun q z hz => by
  by_cases e : q = j
  · subst e
    rw [List.getElem?_set_self (by rw [hin.1]; exact hj)] at hz
    injection hz with hz
    exact .inl ⟨rfl, hz.symm⟩
  · rw [List.getElem?_set_ne (Ne.symm e)] at hz
    exact .inr ⟨e, hz⟩
 refine ⟨⟨by simpa using hl, vs.set j r, by rw [List.length_set]; exact h1, ⟨by simp [hin.1], fun i x hx => ?_, fun i k x y b hik hx hy hxb hyb => ?_⟩, fun i x hx => ?_⟩, h2⟩
 · rcases cas i x hx with ⟨rfl, rfl⟩ | ⟨e1, e2⟩
   · rw [nthL_set_same hj]; exact (row _ _ _ hr).mono hB
   · rw [nthL_set_ne (Ne.symm e1)]; exact row _ _ _ (hin.2.1 i x e2)
 · rcases cas i x hx with ⟨e1, e2⟩ | ⟨e1, e2⟩ <;> rcases cas k y hy with ⟨f1, f2⟩ | ⟨f1, f2⟩
   · omega
   · subst e2
     have a1 := (hr.lt b hxb).1
     have a2 := hlow y (hQ k y f2) b hyb
     omega
   · subst f2
     have a1 := (hr.lt b hyb).1
     have a2 := hlow x (hQ i x e2) b hxb
     omega
   · exact hin.2.2 i k x y b hik e2 f2 hxb hyb
 · rcases cas i x hx with ⟨rfl, rfl⟩ | ⟨e1, e2⟩
   · exact hq
   · exact hQQ x (hQ i x e2)
theorem OwnSQ.put2 (h : OwnSQ w B (.slice (some ⟨g, 0, none⟩) n c) yss Q) {r y : Value} {ys : List Int} (hr : Own w hi r ys) (hB : B ≤ hi)
    (hlow : ∀ x, Q x → ∀ k, x.ownBlock = some k → k < hi) (hq : Q' r) (hQQ : ∀ x, Q x → Q' x) {i t : Nat} (hi' : i < yss.length) (ht : t < yss.length) (hy : w.cell? ⟨g, t, none⟩ = some y) :
    OwnSQ ((w.setCell ⟨g, i, none⟩ y).setCell ⟨g, t, none⟩ r) B (.slice (some ⟨g, 0, none⟩) n c) ((yss.set i (nthL yss t)).set t ys) Q' ∧ w.grownBy ((w.setCell ⟨g, i, none⟩ y).setCell ⟨g, t, none⟩ r) (some g) := by
 have e := h.own.len
 subst e
 obtain ⟨hl, vs, ho, hin, hQ⟩ := h
 have vy : vs[t]? = some y := by rw [← ho.cellAt t (by omega)]; exact hy
 obtain ⟨h1, h2⟩ := ho.stored i y
 obtain ⟨h3, h4⟩ := h1.stored t r
 have row : ∀ (z : Value) (B2 : Nat) (xs : List Int), Own w B2 z xs → Own ((w.setCell ⟨g, i, none⟩ y).setCell ⟨g, t, none⟩ r) B2 z xs := fun z B2 xs hz => row_grow h1 h4 (row_grow ho h2 hz)
 have hil : i < vs.length := by rw [hin.1]; exact hi'
 have htl : t < vs.length := by rw [hin.1]; exact ht
 have cas : ∀ (q : Nat) (z : Value), ((vs.set i y).set t r)[q]? = some z → (q = t ∧ z = r) ∨ ∃ q', vs[q']? = some z ∧ q ≠ t ∧ ((q = i ∧ q' = t) ∨ (q ≠ i ∧ q' = q)) := fun q z hz => by
  by_cases e : q = t
  · subst e
    rw [List.getElem?_set_self (by rw [List.length_set]; exact htl)] at hz
    injection hz with hz
    exact .inl ⟨rfl, hz.symm⟩
  · rw [List.getElem?_set_ne (Ne.symm e)] at hz
    by_cases e2 : q = i
    · subst e2
      rw [List.getElem?_set_self hil] at hz
      injection hz with hz
      subst hz
      exact .inr ⟨t, vy, e, .inl ⟨rfl, rfl⟩⟩
    · rw [List.getElem?_set_ne (Ne.symm e2)] at hz
      exact .inr ⟨q, hz, e, .inr ⟨e2, rfl⟩⟩
 refine ⟨⟨by simpa using hl, (vs.set i y).set t r, by simpa using h3, ⟨by simp [hin.1], fun q z hz => ?_, fun q k z u b hqk hz hu hzb hub => ?_⟩, fun q z hz => ?_⟩, grown_trans_row h2 h4⟩
 · rcases cas q z hz with ⟨rfl, rfl⟩ | ⟨q', hq, hne, hc⟩
   · rw [nthL_set_same (by rw [List.length_set]; exact ht)]
     exact (row _ _ _ hr).mono hB
   · have o := row _ _ _ (hin.2.1 q' z hq)
     rcases hc with ⟨rfl, rfl⟩ | ⟨h1, rfl⟩
     · rw [nthL_set_ne (Ne.symm hne), nthL_set_same hi']; exact o
     · rw [nthL_set_ne (Ne.symm hne), nthL_set_ne (Ne.symm h1)]; exact o
 · rcases cas q z hz with ⟨rfl, rfl⟩ | ⟨q', hqv, hne, hc⟩ <;> rcases cas k u hu with ⟨rfl, rfl⟩ | ⟨k', hk, hke, hd⟩
   · omega
   · have a1 := (hr.lt b hzb).1
     have a2 := hlow u (hQ k' u hk) b hub
     omega
   · have a1 := (hr.lt b hub).1
     have a2 := hlow z (hQ q' z hqv) b hzb
     omega
   · exact hin.2.2 q' k' z u b (by omega) hqv hk hzb hub
 · rcases cas q z hz with ⟨rfl, rfl⟩ | ⟨q', hq', _, _⟩
   · exact hq
   · exact hQQ z (hQ q' z hq')
theorem OwnSQ.swap (h : OwnSQ w B (.slice (some ⟨g, 0, none⟩) n c) yss Q) {i j : Nat} (hi : i < yss.length) (hj : j < yss.length) (hij : i ≠ j) {x y : Value} (hx : w.cell? ⟨g, i, none⟩ = some x) (hy : w.cell? ⟨g, j, none⟩ = some y) :
    OwnSQ ((w.setCell ⟨g, i, none⟩ y).setCell ⟨g, j, none⟩ x) B (.slice (some ⟨g, 0, none⟩) n c) ((yss.set i (nthL yss j)).set j (nthL yss i)) Q ∧ w.grownBy ((w.setCell ⟨g, i, none⟩ y).setCell ⟨g, j, none⟩ x) (some g) := by
 have e := h.own.len
 subst e
 obtain ⟨hl, vs, ho, hin, hQ⟩ := h
 have vx : vs[i]? = some x := by rw [← ho.cellAt i (by omega)]; exact hx
 have vy : vs[j]? = some y := by rw [← ho.cellAt j (by omega)]; exact hy
 obtain ⟨h1, h2⟩ := ho.stored i y
 obtain ⟨h3, h4⟩ := h1.stored j x
 have row : ∀ (z : Value) (B2 : Nat) (xs : List Int), Own w B2 z xs → Own ((w.setCell ⟨g, i, none⟩ y).setCell ⟨g, j, none⟩ x) B2 z xs := fun z B2 xs hz => row_grow h1 h4 (row_grow ho h2 hz)
 have hil : i < vs.length := by rw [hin.1]; exact hi
 have hjl : j < vs.length := by rw [hin.1]; exact hj
 have cas : ∀ (q : Nat) (z : Value), ((vs.set i y).set j x)[q]? = some z → ∃ q', vs[q']? = some z ∧ ((q = j ∧ q' = i) ∨ (q = i ∧ q ≠ j ∧ q' = j) ∨ (q ≠ i ∧ q ≠ j ∧ q' = q)) := fun q z hz => by
  by_cases e : q = j
  · subst e
    rw [List.getElem?_set_self (by rw [List.length_set]; exact hjl)] at hz
    injection hz with hz
    subst hz
    exact ⟨i, vx, .inl ⟨rfl, rfl⟩⟩
  · rw [List.getElem?_set_ne (Ne.symm e)] at hz
    by_cases e2 : q = i
    · subst e2
      rw [List.getElem?_set_self hil] at hz
      injection hz with hz
      subst hz
      exact ⟨j, vy, .inr (.inl ⟨rfl, e, rfl⟩)⟩
    · rw [List.getElem?_set_ne (Ne.symm e2)] at hz
      exact ⟨q, hz, .inr (.inr ⟨e2, e, rfl⟩)⟩
 refine ⟨⟨by simpa using hl, (vs.set i y).set j x, by simpa using h3, ⟨by simp [hin.1], fun q z hz => ?_, fun q k z u b hqk hz hu hzb hub => ?_⟩, fun q z hz => ?_⟩, grown_trans_row h2 h4⟩
 · obtain ⟨q', hq, hc⟩ := cas q z hz
   have o := row _ _ _ (hin.2.1 q' z hq)
   rcases hc with ⟨rfl, rfl⟩ | ⟨rfl, hne, rfl⟩ | ⟨h1, h2, rfl⟩
   · rw [nthL_set_same (by rw [List.length_set]; exact hj)]; exact o
   · rw [nthL_set_ne (Ne.symm hne), nthL_set_same hi]; exact o
   · rw [nthL_set_ne (Ne.symm h2), nthL_set_ne (Ne.symm h1)]; exact o
 · obtain ⟨q', hq, hc⟩ := cas q z hz
   obtain ⟨k', hk, hd⟩ := cas k u hu
   exact hin.2.2 q' k' z u b (by omega) hq hk hzb hub
 · obtain ⟨q', hq, _⟩ := cas q z hz
   exact hQ q' z hq
end
end Go.Proofs.YtgfcbmflnldicaaGreat
namespace Go.Proofs.YtgfcbmflnldicaaGreat
open Go.RowKit
theorem capTo_anti {b l : Int} {j k : Nat} (hjk : j ≤ k) (h : capTo b l k ≤ l) : capTo b l j ≤ l := by
 rcases Int.lt_or_le l (capTo b l j) with h1 | h1
 · have := capTo_stop (b := b) (l := l) (k := j) (by omega) k hjk
   omega
 · exact h1
end Go.Proofs.YtgfcbmflnldicaaGreat
namespace Go.Proofs.YtgfcbmflnldicaaGreat
open Go.RowKit
theorem Blk.grown {w w' : World} {g : Nat} {t : TypeId} {cs : Array Value} {row : Option Nat} (h : Blk w g t cs) (hg : w.grownBy w' row) (hne : row ≠ some g) : Blk w' g t cs := (hg.block g h.lt (Ne.symm hne)).trans h
end Go.Proofs.YtgfcbmflnldicaaGreat
namespace Go.Proofs.YtgfcbmflnldicaaGreat
open Go.RowKit
theorem markH_any (B hi : Nat) (v : Value) (k : Int) (xs : List Int) (w : World) (hx : OwnH w B hi v xs) (hB : B ≤ w.heap.size) (hk0 : 0 ≤ k) (hk1 : k ≤ 9000000000000000000) :
    Calls Tryz.prog 28 #[v, .int .i64 k] w fun e w' => e = .returned (.int .i64 (k + xs.length)) ∧ OwnH w' B hi v (marked k xs.length) ∧ w.grownBy w' v.ownBlock ∧ Mk w w' B hi := by
 refine (markInt64S_any v k xs B w hx.1 hk0 hk1).mono ?_
 rintro e w' ⟨rfl, ho, hg⟩
 exact ⟨rfl, ⟨ho, hx.2⟩, hg, Mk.grown hg hx.2 hB⟩
def mkTo (k : Int) (xss : List (List Int)) (i : Nat) : List (List Int) := (markS k (xss.map List.length)).take i ++ xss.drop i
theorem mkTo_len (k : Int) (xss : List (List Int)) {i : Nat} (hi : i ≤ xss.length) : (mkTo k xss i).length = xss.length := by
 rw [mkTo, List.length_append, List.length_take, markS_len, List.length_map, List.length_drop]; omega
theorem mkTo_next {k : Int} {xss : List (List Int)} {i : Nat} (hi : i < xss.length) : nthL (mkTo k xss i) i = nthL xss i := by
 rw [mkTo, nthL, List.getD_eq_getElem?_getD, List.getElem?_append_right (by rw [List.length_take, markS_len, List.length_map]; omega), List.length_take, markS_len, List.length_map, Nat.min_eq_left (by omega), Nat.sub_self, List.getElem?_drop, ← List.getD_eq_getElem?_getD]
 rfl
theorem mkTo_succ {k : Int} {xss : List (List Int)} {i : Nat} (hi : i < xss.length) : (mkTo k xss i).set i (marked (k + (((xss.map List.length).take i).sum : Nat)) (nthL xss i).length) = mkTo k xss (i + 1) := by
 have hm := markS_nth k (xss.map List.length) i (by simpa using hi)
 have hl : (xss.map List.length).getD i 0 = (nthL xss i).length := by simp [nthL, List.getD_eq_getElem?_getD, hi]
 rw [hl] at hm
 have hlen : i < (markS k (xss.map List.length)).length := by rw [markS_len]; simpa using hi
 rw [mkTo, mkTo, List.set_append_right _ _ (by rw [List.length_take, markS_len, List.length_map]; omega), List.length_take, markS_len, List.length_map, Nat.min_eq_left (by omega), Nat.sub_self, ← hm, List.drop_eq_getElem_cons hi, List.set_cons_zero, take_nthL hlen, List.append_assoc]
 rfl
theorem lens_take (xss : List (List Int)) {i : Nat} (hi : i < xss.length) : ((xss.map List.length).take (i + 1)).sum = ((xss.map List.length).take i).sum + (nthL xss i).length := by
 rw [sum_take_succ _ (by simpa using hi)]
 congr 1
 simp [nthL, List.getD_eq_getElem?_getD, hi]
theorem markSS_any (B hi : Nat) (a : Option Addr) (n c : Nat) (k : Int) (xss : List (List Int)) (w : World) (hn : n = xss.length) (hx : OwnSH w B hi (.slice a n c) xss) (hB : B ≤ w.heap.size) (hk0 : 0 ≤ k) (hk1 : k + ((xss.map List.length).sum : Nat) ≤ 9000000000000000000) :
    Calls Tryz.prog 72 #[.slice a n c, .int .i64 k] w fun e w' => e = .returned (.int .i64 (k + ((xss.map List.length).sum : Nat))) ∧ OwnSH w' B hi (.slice a n c) (markS k (xss.map List.length)) ∧ Mk w w' B hi := by
 have hxl := hx.1
 subst hn
 go_enter Tryz.func72, Tryz.ntmps72
 go_wp2
 go_loopw [1, 5] (fun kv iv wr => ∃ (i s : Nat), iv = .int .i64 i ∧ kv = .int .i64 (k + s) ∧ i ≤ xss.length ∧ Hid (s = ((xss.map List.length).take i).sum) ∧ Hid (OwnSH wr B hi (.slice a xss.length c) (mkTo k xss i)) ∧ Hid (Mk w wr B hi)) (fun _ iv _ => xss.length - (intOf iv).toNat)
 case atStart => exact ⟨0, 0, rfl, by simp, Nat.zero_le _, by show _ = _; simp, hx, Mk.refl _ _ _⟩
 case round =>
  obtain ⟨i, s, rfl, rfl, hiL, hs, ho, hm⟩ := hrel
  by_cases hil : i < xss.length
  · have hsz := hm.out.size
    have hlen := mkTo_len k xss (i := i) (by omega)
    obtain ⟨ar, cr, hrow, hcell, hput⟩ := ho.out.row (i := i) (by rw [hlen]; exact hil)
    obtain ⟨b, off, rfl, hb, hc⟩ := ho.out.rd.at_ (by rw [hlen]; omega)
    have h1 := hcell b off _ _ rfl
    rw [mkTo_next hil] at h1 hrow hput
    obtain ⟨row, hrw⟩ : ∃ row, row = nthL xss i := ⟨_, rfl⟩
    have hst := lens_take xss hil
    have hts := sum_take_le (xss.map List.length) (i + 1)
    rw [← hrw] at h1 hrow hput hst
    have hmk := fun W h hB => markH_any B hi (.slice ar row.length cr) (k + s) row W h hB (by omega) (by have := hs.out; omega)
    have HMK := hide hmk
    have HST := Lib.hid hst
    have HRW := Lib.hid hrw
    have HLEN := Lib.hid hlen
    have hxl2 := hs
    clear hmk hcell hc hst hrw hts hlen
    go_wp2_with fail
    refine (unhide HMK wr hrow (by omega)).mono ?_
    rintro e w1 ⟨rfl, o1, g1, m1⟩
    have hres := hput w1 (marked (k + s) row.length) o1 (by rw [marked_len]) g1
    rw [hs.out, HRW.out, mkTo_succ hil] at hres
    have HRES := Lib.hid hres
    clear hres hput
    have hmm := hm.out.trans m1
    go_wp2_with fail
    go_roundw
    case rel => exact ⟨i + 1, s + row.length, by go_num, (by congr 1; omega), by omega, by show _ = _; rw [HST.out, hs.out], HRES.out, hmm⟩
    case measure => simp only [intOf]; omega
  · have hie : i = xss.length := by omega
    have HI := Lib.hid hie
    clear hie
    go_wp2
    go_ret
    have e1 := HI.out
    have e2 := hs.out
    have e3 := ho.out
    rw [e1, List.take_of_length_le (by simp)] at e2
    rw [e1, mkTo, List.take_of_length_le (by rw [markS_len]; simp), List.drop_length, List.append_nil] at e3
    exact ⟨ret_int (by rw [e2]), e3, hm.out⟩
theorem heldSS_any (a : Option Addr) (n c : Nat) (k : Int) (ls : List Nat) (w : World) (hn : n = ls.length) (hx : RdS w a (markS k ls)) (hk0 : 0 ≤ k) (hk1 : k + (ls.sum : Nat) ≤ 9000000000000000000) :
    Calls Tryz.prog 73 #[.slice a n c, .int .i64 k] w fun e w' => e = .returned (.int .i64 (k + (ls.sum : Nat))) ∧ w = w' := by
 have hxl := hx.len
 rw [markS_len] at hxl
 subst hn
 go_enter Tryz.func73, Tryz.ntmps73
 go_wp2
 go_loop [1, 5] (fun kv iv => ∃ (i s : Nat), iv = .int .i64 i ∧ kv = .int .i64 (k + s) ∧ i ≤ ls.length ∧ Hid (s = (ls.take i).sum)) (fun _ iv => ls.length - (intOf iv).toNat)
 case atStart => exact ⟨0, 0, rfl, by simp, Nat.zero_le _, by show _ = _; simp⟩
 case round =>
  obtain ⟨i, s, rfl, rfl, hi, hs⟩ := hrel
  by_cases hil : i < ls.length
  · obtain ⟨b, off, rfl, hb, hc⟩ := hx.at_ (by rw [markS_len]; omega)
    obtain ⟨ai, ci, h1, hr⟩ := hc i (by rw [markS_len]; exact hil)
    have hst := sum_take_succ ls hil
    have hts := sum_take_le ls (i + 1)
    have hss := hs.out
    rw [markS_nth k ls i hil, ← hss] at h1 hr
    rw [marked_len] at h1
    generalize hm : ls.getD i 0 = m at h1 hr hst
    have hh := fun W h => heldInt64S_marked ai ci m (k + s) W h (by omega) (by omega)
    have HH := hide hh
    have HST := Lib.hid hst
    have hm0 : 0 ≤ k + (s : Int) + (m : Int) := by omega
    clear hh hst hts hss hm hc hx
    go_wp2_with fail
    refine (unhide HH w hr).mono ?_
    rintro e w1 ⟨rfl, rfl⟩
    have hlt : decide (k + (s : Int) + (m : Int) < 0) = false := by rw [decide_eq_false_iff_not]; omega
    go_wp2_with fail
    go_round
    case rel => exact ⟨i + 1, s + m, by go_num, (by congr 1; omega), by omega, by show _ = _; rw [HST.out, hs.out]⟩
    case measure => simp only [intOf]; omega
  · have hie : i = ls.length := by omega
    have HI := Lib.hid hie
    clear hie
    go_wp2
    go_ret
    have e1 := HI.out
    have e2 := hs.out
    rw [e1, List.take_of_length_le (Nat.le_refl _)] at e2
    exact ⟨ret_int (by rw [e2]), rfl⟩
theorem markField_any (B hi : Nat) (p d : Int) (a : Option Addr) (n c : Nat) (k : Int) (xs : List Int) (w : World) (hn : n = xs.length) (hx : OwnH w B hi (.slice a n c) xs) (hB : B ≤ w.heap.size) (hh : hi ≤ w.heap.size) (hk0 : 0 ≤ k) (hk1 : k ≤ 9000000000000000000) :
    Calls Tryz.prog 71 #[.agg #[.int .i64 p, .int .i64 d, .slice a n c], .int .i64 k] w fun e w' => e = .returned (.int .i64 (k + xs.length)) ∧ OwnH w' B hi (.slice a n c) (marked k xs.length) ∧ Mk w w' B hi := by
 subst hn
 obtain ⟨w0, hw0⟩ : ∃ w0, w0 = w.alloc (.cells #[.int .i64 p, .int .i64 d, .slice a xs.length c] 50) := ⟨_, rfl⟩
 have hb0 : Below w.heap.size w w0 := by rw [hw0]; exact (Below.refl _ _).alloc (Nat.le_refl _) _
 have k0 : Blk w0 w.heap.size 50 #[.int .i64 p, .int .i64 d, .slice a xs.length c] := by rw [hw0]; exact Blk.new _ _ _ rfl
 have s0 : w0.heap.size = w.heap.size + 1 := by rw [hw0]; simp
 have HW := Lib.hid hw0
 clear hw0
 have f2 : w0.cell? ⟨w.heap.size, 2, none⟩ = some (.slice a xs.length c) := k0.cell 2
 have hm := markH_any B hi (.slice a xs.length c) k xs w0 (hx.kp (Kp.below hb0 hh)) (by omega) hk0 hk1
 have HM := hide hm
 have h1 : 0 ≤ k + (xs.length : Int) := by omega
 clear hm
 go_enter Tryz.func71, Tryz.ntmps71
 go_wp2_with fail
 rw [← HW.out]
 refine (unhide HM).mono ?_
 rintro e w1 ⟨rfl, o1, g1, m1⟩
 go_wp2
 go_ret
 exact ⟨rfl, o1, (Mk.alloc hb0 hB).trans m1⟩
theorem markCode_any (B hi : Nat) (p d : Int) (a b : Option Addr) (n m c cb : Nat) (k : Int) (xs : List Int) (xss : List (List Int)) (w : World) (hn : n = xs.length) (hm : m = xss.length) (hx : OwnCH w B hi (.slice a n c) (.slice b m cb) xs xss) (hB : B ≤ w.heap.size) (hh : hi ≤ w.heap.size) (hk0 : 0 ≤ k) (hk1 : k + xs.length + ((xss.map List.length).sum : Nat) ≤ 9000000000000000000) :
    Calls Tryz.prog 22 #[.agg #[.int .i64 p, .int .i64 d, .slice a n c, .slice b m cb], .int .i64 k] w fun e w' => e = .returned (.int .i64 (k + xs.length + ((xss.map List.length).sum : Nat))) ∧ OwnCH w' B hi (.slice a n c) (.slice b m cb) (marked k xs.length) (markS (k + xs.length) (xss.map List.length)) ∧ Mk w w' B hi := by
 subst hn
 subst hm
 obtain ⟨M, hM1, hM2, hxF, hxS⟩ := hx
 obtain ⟨w0, hw0⟩ : ∃ w0, w0 = w.alloc (.cells #[.int .i64 p, .int .i64 d, .slice a xs.length c, .slice b xss.length cb] 52) := ⟨_, rfl⟩
 have hb0 : Below w.heap.size w w0 := by rw [hw0]; exact (Below.refl _ _).alloc (Nat.le_refl _) _
 have k0 : Blk w0 w.heap.size 52 #[.int .i64 p, .int .i64 d, .slice a xs.length c, .slice b xss.length cb] := by rw [hw0]; exact Blk.new _ _ _ rfl
 have s0 : w0.heap.size = w.heap.size + 1 := by rw [hw0]; simp
 have HW := Lib.hid hw0
 clear hw0
 have f0 : w0.cell? ⟨w.heap.size, 0, none⟩ = some (.int .i64 p) := k0.cell 0
 have f1 : w0.cell? ⟨w.heap.size, 1, none⟩ = some (.int .i64 d) := k0.cell 1
 have f2 : w0.cell? ⟨w.heap.size, 2, none⟩ = some (.slice a xs.length c) := k0.cell 2
 have hF := markField_any B M p d a xs.length c k xs w0 rfl (hxF.kp (Kp.below hb0 (by omega))) (by omega) (by omega) hk0 (by omega)
 have HF := hide hF
 clear hF
 go_enter Tryz.func22, Tryz.ntmps22
 go_wp2_with fail
 rw [← HW.out]
 refine (unhide HF).mono ?_
 rintro e w1 ⟨rfl, o1, m1⟩
 have s1 := m1.size
 have hS := markSS_any M hi b xss.length cb (k + xs.length) xss w1 rfl (hxS.kp ((Kp.below hb0 hh).trans (m1.kp (.inr (Nat.le_refl _)) (by omega)))) (by omega) (by omega) (by omega)
 have k1 := k0.kp (m1.kp (.inr (by omega)) (by omega))
 have f3 : w1.cell? ⟨w.heap.size, 3, none⟩ = some (.slice b xss.length cb) := k1.cell 3
 have HS := hide hS
 have h1 : 0 ≤ k + (xs.length : Int) := by omega
 clear hS f0 f1 f2
 go_wp2_with fail
 refine (unhide HS).mono ?_
 rintro e w2 ⟨rfl, o2, m2⟩
 go_wp2
 go_ret
 exact ⟨rfl, ⟨M, hM1, hM2, o1.kp (m2.kp (.inl (Nat.le_refl _)) (by omega)), o2⟩, ((Mk.alloc hb0 hB).trans (m1.wide (Nat.le_refl _) hM2)).trans (m2.wide hM1 (Nat.le_refl _))⟩
end Go.Proofs.YtgfcbmflnldicaaGreat
namespace Go.Proofs.YtgfcbmflnldicaaGreat
open Go.RowKit
theorem capTo_eq {b l : Int} (hb : 1 ≤ b) {m : Nat} (h : capTo b l m ≤ l) : capTo b l m = b ^ m := by
 induction m with
 | zero => simp [capTo]
 | succ m ih =>
  have h1 := capTo_anti (show m ≤ m + 1 by omega) h
  rw [capTo_go h1, ih h1, Int.pow_succ]
end Go.Proofs.YtgfcbmflnldicaaGreat
