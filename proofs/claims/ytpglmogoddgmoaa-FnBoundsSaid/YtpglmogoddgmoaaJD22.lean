/-
  Texts joined.
-/
import Derived.Test.YtpglmogoddgmoaaJD4
import Derived.Test.YtpglmogoddgmoaaJD9
import Derived.Test.YtpglmogoddgmoaaJD15
import Derived.Test.YtpglmogoddgmoaaJD16
import Derived.Test.YtpglmogoddgmoaaJD19
import Derived.Test.YtpglmogoddgmoaaJD20
import Derived.Test.YtpglmogoddgmoaaJD21
set_option linter.unusedVariables false
set_option linter.unusedSimpArgs false
set_option maxRecDepth 100000
set_option maxHeartbeats 40000000
namespace Go.Proofs.Ytpglmogoddgmoaa
open Go.RowKit
attribute [local go_sem ↓] Go.wp_at_zero Go.wp_at_succ
def nearI (wds : List (List Int)) (v : List Int) (n : Nat) : Nat → Nat
 | 0 => 0
 | k + 1 => if apartTo (nthL wds k) v n < apartTo (nthL wds (nearI wds v n k)) v n then k else nearI wds v n k
theorem nearI_lt (wds : List (List Int)) (v : List Int) (n : Nat) {k : Nat} (hk : 1 ≤ k) : nearI wds v n k < k := by
 induction k with
 | zero => omega
 | succ k ih =>
  rw [nearI]
  split
  · omega
  · rcases Nat.eq_zero_or_pos k with h | h
    · subst h; rw [nearI]; omega
    · have := ih h; omega
def nearV (F : FD) (n : Nat) (m : List (List Int)) (v : List Int) : List Int × Int × Int :=
 (nthL (wordsTo F n m m.length) (nearI (wordsTo F n m m.length) v n (wordsTo F n m m.length).length), (apartTo (nthL (wordsTo F n m m.length) (nearI (wordsTo F n m m.length) v n (wordsTo F n m m.length).length)) v n : Int), 0)
end Go.Proofs.Ytpglmogoddgmoaa
namespace Go.Proofs.Ytpglmogoddgmoaa
open Go.RowKit
section
variable {F : FD}
def tk (msg : List Int) (k t : Nat) : List Int := (List.range k).map fun l => if l < t then nth msg l else 0
end
end Go.Proofs.Ytpglmogoddgmoaa
namespace Go.Proofs.Ytpglmogoddgmoaa
open Go.RowKit
section
variable {F : FD} {n : Nat} {m A : List (List Int)}
theorem nearI_min (wds : List (List Int)) (v : List Int) (n : Nat) (k : Nat) : ∀ j, j < k → apartTo (nthL wds (nearI wds v n k)) v n ≤ apartTo (nthL wds j) v n := by
 induction k with
 | zero => intro j hj; omega
 | succ k ih =>
  intro j hj
  rw [nearI]
  split
  · rename_i h
    rcases Nat.lt_or_eq_of_le (Nat.lt_succ_iff.1 hj) with h1 | h1
    · have := ih j h1; omega
    · rw [h1]; exact Nat.le_refl _
  · rename_i h
    rcases Nat.lt_or_eq_of_le (Nat.lt_succ_iff.1 hj) with h1 | h1
    · exact ih j h1
    · rw [h1]; omega
theorem apart_wf (ok : F.Ok) {a b : List Int} (ha : ∀ i, F.el (nth a i)) (hb : ∀ i, F.el (nth b i)) (w : List Int) (k : Nat) : wf (fun i => F.sub (nth a i) (nth b i)) k ≤ apartTo a w k + apartTo b w k := by
 induction k with
 | zero => exact Nat.zero_le _
 | succ k ih =>
  rw [wf, List.range_succ, List.countP_append, apartTo, apartTo]
  rw [wf] at ih
  by_cases e : nth a k = nth b k
  · have h0 : F.sub (nth a k) (nth b k) = 0 := by rw [e, sub_self' ok]
    simp only [h0, List.countP_cons, List.countP_nil, bne_self_eq_false, Bool.false_eq_true, if_false]
    split <;> split <;> omega
  · have h0 : F.sub (nth a k) (nth b k) ≠ 0 := fun h => e (eq_of_sub ok (ha k) (hb k) h)
    have h1 : ((F.sub (nth a k) (nth b k) != 0) = true) := by simpa using h0
    simp only [List.countP_cons, List.countP_nil, h1, if_true]
    by_cases e1 : nth a k = nth w k
    · rw [if_pos e1, if_neg (fun h => e (e1.trans h.symm))]; omega
    · rw [if_neg e1]; split <;> omega
theorem near_word (h : GC F n m) {word bent : List Int} (hl : word.length = n) (hs : Sp F m (nth word)) (hd : 2 * apartTo word bent n < distC F n m) : nearV F n m bent = (word, (apartTo word bent n : Int), 0) := by
 have ok := h.good.ok
 obtain ⟨j, hj, e⟩ := h.sp_word hl hs
 have hw := wordsTo_len F n m m.length
 obtain ⟨t, hT⟩ : ∃ t, t = nearI (wordsTo F n m m.length) bent n (wordsTo F n m m.length).length := ⟨_, rfl⟩
 have ht : t < F.n ^ m.length := by
  have := nearI_lt (wordsTo F n m m.length) bent n (k := (wordsTo F n m m.length).length) (by omega)
  omega
 have hmin := nearI_min (wordsTo F n m m.length) bent n (wordsTo F n m m.length).length j (by omega)
 rw [← hT, e] at hmin
 obtain ⟨h1, h2, h3⟩ := h.word_sp ht
 have hsub := hs.sub ok h3 1
 have hwf := apart_wf ok (a := word) (b := nthL (wordsTo F n m m.length) t) (hs.el ok) (h3.el ok) bent n
 have e2 : (fun i => F.sub (nth word i) (F.mul 1 (nth (nthL (wordsTo F n m m.length) t) i))) = fun i => F.sub (nth word i) (nth (nthL (wordsTo F n m m.length) t) i) := by
  funext i
  rw [one_mul' ok (h3.el ok i)]
 rw [e2] at hsub
 have heq : nthL (wordsTo F n m m.length) t = word := by
  rcases Nat.eq_zero_or_pos (wf (fun i => F.sub (nth word i) (nth (nthL (wordsTo F n m m.length) t) i)) n) with hz | hz
  · refine eq_of_nth (by rw [h1, hl]) fun i hi => ?_
    rw [h1] at hi
    rcases Classical.em (F.sub (nth word i) (nth (nthL (wordsTo F n m m.length) t) i) = 0) with h0 | h0
    · exact (eq_of_sub ok (hs.el ok i) (h3.el ok i) h0).symm
    · have := wf_one (v := fun i => F.sub (nth word i) (nth (nthL (wordsTo F n m m.length) t) i)) hi h0
      omega
  · exfalso
    obtain ⟨u, hu⟩ : ∃ u : List Int, u = (List.range n).map fun i => F.sub (nth word i) (nth (nthL (wordsTo F n m m.length) t) i) := ⟨_, rfl⟩
    have hul : u.length = n := by rw [hu]; simp
    have hun : nth u = fun i => F.sub (nth word i) (nth (nthL (wordsTo F n m m.length) t) i) := by
     funext i
     rcases Nat.lt_or_ge i n with hi | hi
     · rw [hu]; simp [nth, hi]
     · rw [nth_big (by omega), nth_big (by omega), nth_big (by omega), sub_self' ok]
    have := h.dist_spec.2 u hul (by rw [hun]; exact hsub) (by rw [wt_wf hul, hun]; exact hz)
    rw [wt_wf hul, hun] at this
    omega
 rw [nearV, ← hT, heq]
end
end Go.Proofs.Ytpglmogoddgmoaa
namespace Go.Proofs.Ytpglmogoddgmoaa
open Go.RowKit
theorem apartTo_cons (a b : Int) (c v : List Int) (k : Nat) : apartTo (a :: c) (b :: v) (k + 1) = (if a = b then 0 else 1) + apartTo c v k := by
 induction k with
 | zero =>
  have e1 : nth (a :: c) 0 = a := rfl
  have e2 : nth (b :: v) 0 = b := rfl
  rw [apartTo, apartTo, apartTo, e1, e2]
  split <;> rfl
 | succ k ih =>
  have e1 : nth (a :: c) (k + 1) = nth c k := rfl
  have e2 : nth (b :: v) (k + 1) = nth v k := rfl
  rw [apartTo, e1, e2, ih, apartTo]
  split <;> omega
theorem smq_two' {f : Nat → Nat} {n x0 A B : Nat} (hx : x0 < n) (h0 : f x0 = A) (h : ∀ x, x < n → x ≠ x0 → f x = B) : smq f n = A + (n - 1) * B := by
 have h1 : smq f n = smq (fun x => (if x = x0 then A else 0) + (if x = x0 then 0 else B)) n := smq_congr fun x hxn => by
  by_cases e : x = x0
  · rw [if_pos e, if_pos e, e, h0]; rfl
  · rw [if_neg e, if_neg e, h x hxn e]; omega
 rw [h1, smq_add, smq_one (f := fun x => if x = x0 then A else 0) hx (fun x _ e => if_neg e)]
 have h2 : smq (fun x => if x = x0 then 0 else B) n = B * smq (fun x => if x = x0 then 0 else 1) n := by
  clear h1 h h0 hx
  induction n with
  | zero => simp [smq]
  | succ n ih =>
   rw [smq, smq, ih, Nat.mul_add]
   split <;> simp
 have h3 := smq_but x0 n
 rw [if_pos hx] at h3
 rw [h2, if_pos rfl, show smq (fun x => if x = x0 then 0 else 1) n = n - 1 by omega, Nat.mul_comm]
theorem cnt_apart {q : Nat} (hq : 0 < q) : ∀ (k : Nat) (c : List Int), c.length = k → (∀ x ∈ c, 0 ≤ x ∧ x < (q : Int)) → ∀ r, cntV q (fun v => apartTo c v k == r) k = bin k r * (q - 1) ^ r
 | 0, c, _, _, r => by
  have e : cntV q (fun v => apartTo c v 0 == r) 0 = if r = 0 then 1 else 0 := by
   rw [cntV, Nat.pow_zero]
   have : List.range 1 = [0] := rfl
   rw [this, List.countP_cons, List.countP_nil]
   show 0 + (if ((0 : Nat) == r) = true then 1 else 0) = _
   by_cases h : r = 0
   · simp [h]
   · have : ¬ 0 = r := fun e => h e.symm
     simp [h, this]
  rw [e]
  by_cases h : r = 0
  · subst h; simp [bin_zero]
  · rw [if_neg h, bin_big (by omega)]; simp
 | k + 1, [], h, _, _ => by simp at h
 | k + 1, a :: c, h, he, r => by
  have hl : c.length = k := by simpa using h
  have ha := he a (List.mem_cons_self ..)
  have hc := fun x hx => he x (List.mem_cons_of_mem _ hx)
  rw [cnt_succ hq]
  have e1 : ∀ x : Nat, cntV q (fun v => apartTo (a :: c) ((x : Int) :: v) (k + 1) == r) k = if x = a.toNat then cntV q (fun v => apartTo c v k == r) k else (if r = 0 then 0 else cntV q (fun v => apartTo c v k == r - 1) k) := fun x => by
   by_cases hx : x = a.toNat
   · rw [if_pos hx]
     have : a = (x : Int) := by omega
     refine cnt_congr (fun v _ _ => ?_) hq
     rw [apartTo_cons, if_pos this, Nat.zero_add]
   · rw [if_neg hx]
     have : ¬ a = (x : Int) := by omega
     by_cases h0 : r = 0
     · rw [if_pos h0]
       subst h0
       refine (cnt_congr (Q := fun _ => false) (fun v _ _ => ?_) hq).trans (cnt_none q k)
       rw [apartTo_cons, if_neg this]
       simp
     · rw [if_neg h0]
       refine cnt_congr (fun v _ _ => ?_) hq
       rw [apartTo_cons, if_neg this, Bool.eq_iff_iff, beq_iff_eq, beq_iff_eq]
       omega
  rw [smq_two' (x0 := a.toNat) (by omega) ((e1 _).trans (if_pos rfl)) (fun x _ hne => (e1 x).trans (if_neg hne)), cnt_apart hq k c hl hc r]
  cases r with
  | zero => simp [bin_zero]
  | succ r =>
   rw [if_neg (by omega), Nat.add_sub_cancel, cnt_apart hq k c hl hc r, bin_succ, Nat.add_mul, Nat.pow_succ]
   rw [Nat.add_comm (bin k r * _), ← Nat.mul_assoc, Nat.mul_comm (q - 1), Nat.mul_assoc (bin k r)]
theorem countP_split {α : Type} (p p1 p2 : α → Bool) (l : List α) (h : ∀ x, p x = (p1 x || p2 x)) (hd : ∀ x, p1 x = true → p2 x = false) : l.countP p = l.countP p1 + l.countP p2 := by
 induction l with
 | nil => rfl
 | cons x xs ih =>
  rw [List.countP_cons, List.countP_cons, List.countP_cons, ih, h x]
  cases h1 : p1 x with
  | true => rw [hd x h1]; simp; omega
  | false => cases p2 x <;> simp <;> omega
theorem ch_bin' {n : Nat} (hn : n ≤ 32) (k : Nat) : chooseV n k = (bin n k : Int) := by
 by_cases h : k ≤ n
 · exact chooseV_bin hn h
 · rw [bin_big (by omega), chooseV, if_neg (by simp only [Bool.and_eq_true, inB_true]; omega)]; rfl
theorem cnt_ball {q k : Nat} (hq : 1 ≤ q) (hk : k ≤ 32) {c : List Int} (hl : c.length = k) (hc : ∀ x ∈ c, 0 ≤ x ∧ x < (q : Int)) (r : Nat) : (cntV q (fun v => decide (apartTo c v k ≤ r)) k : Int) = ballV q k r := by
 have hterm : ∀ s : Nat, (cntV q (fun v => apartTo c v k == s) k : Int) = ballT q k s := fun s => by
  rw [cnt_apart hq k c hl hc s, ballT, ch_bin' hk, Int.natCast_mul, Int.natCast_pow]
  congr 2
  omega
 have key : ∀ s, (cntV q (fun v => decide (apartTo c v k < s)) k : Int) = sumTo (ballT q k) s := fun s => by
  induction s with
  | zero =>
   rw [(cnt_congr (Q := fun _ => false) (fun v _ _ => by simp) hq).trans (cnt_none q k)]; rfl
  | succ s ih =>
   rw [sumTo, ← ih, ← hterm s, ← Int.natCast_add]
   congr 1
   rw [cntV, cntV, cntV]
   refine countP_split _ _ _ _ (fun t => ?_) (fun t h => ?_)
   · rw [Bool.eq_iff_iff, Bool.or_eq_true, decide_eq_true_eq, decide_eq_true_eq, beq_iff_eq]
     omega
   · rw [decide_eq_true_eq] at h
     rw [beq_eq_false_iff_ne]
     omega
 rw [ballV, ← key (r + 1)]
 congr 1
 exact cnt_congr (fun v _ _ => by rw [Bool.eq_iff_iff, decide_eq_true_eq, decide_eq_true_eq]; omega) hq
theorem smq_apart {M : Nat} (P : Nat → Nat → Bool) : ∀ K, (∀ t i j, t < M → i < K → j < K → P i t = true → P j t = true → i = j) → smq (fun j => (List.range M).countP (P j)) K ≤ M := by
 intro K h
 have key : ∀ K', K' ≤ K → smq (fun j => (List.range M).countP (P j)) K' = (List.range M).countP fun t => (List.range K').any fun j => P j t := by
  intro K'
  induction K' with
  | zero => intro _; simp [smq]
  | succ K' ih =>
   intro hK
   rw [smq, ih (by omega)]
   symm
   have e : (List.range M).countP (fun t => (List.range (K' + 1)).any fun j => P j t) = (List.range M).countP (fun t => ((List.range K').any fun j => P j t) || P K' t) := by
    refine List.countP_congr fun t _ => ?_
    rw [List.range_succ, List.any_append]
    simp
   rw [e]
   have e2 : (List.range M).countP (fun t => ((List.range K').any fun j => P j t) || P K' t) = (List.range M).countP (fun t => ((List.range K').any fun j => P j t)) + (List.range M).countP (fun t => !((List.range K').any fun j => P j t) && P K' t) := by
    refine countP_split _ _ _ _ (fun t => ?_) (fun t h => ?_)
    · cases ((List.range K').any fun j => P j t) <;> simp
    · rw [h]; rfl
   rw [e2]
   congr 1
   refine List.countP_congr fun t ht => ?_
   rw [List.mem_range] at ht
   cases hp : P K' t with
   | false => simp
   | true =>
    have : ((List.range K').any fun j => P j t) = false := by
     rw [List.any_eq_false]
     intro j hj hpj
     rw [List.mem_range] at hj
     have := h t j K' ht (by omega) (by omega) hpj hp
     omega
    rw [this]; rfl
 rw [key K (Nat.le_refl _)]
 exact Nat.le_trans List.countP_le_length (Nat.le_of_eq List.length_range)
section
variable {F : FD} {n : Nat} {m : List (List Int)}
theorem GC.hamming (h : GC F n m) (hd : 1 ≤ distC F n m) : (F.n : Int) ^ m.length * ballV F.n n ((distC F n m - 1) / 2) ≤ (F.n : Int) ^ n := by
 have ok := h.good.ok
 obtain ⟨n2, _⟩ := ok.n_bd
 obtain ⟨K, hK⟩ : ∃ K, K = F.n ^ m.length := ⟨_, rfl⟩
 obtain ⟨t, ht⟩ : ∃ t, t = (distC F n m - 1) / 2 := ⟨_, rfl⟩
 have hs := smq_apart (M := F.n ^ n) (fun j s => decide (apartTo (nthL (wordsTo F n m m.length) j) (hig s F.n n) n ≤ t)) K (fun s i j hs hi hj h1 h2 => by
  rw [decide_eq_true_eq] at h1 h2
  rw [hK] at hi hj
  obtain ⟨hl1, he1, hs1⟩ := h.word_sp hi
  obtain ⟨hl2, he2, hs2⟩ := h.word_sp hj
  have e1 := near_word h hl1 hs1 (bent := hig s F.n n) (by omega)
  have e2 := near_word h hl2 hs2 (bent := hig s F.n n) (by omega)
  rw [e1] at e2
  exact h.word_inj hi hj (Prod.mk.inj e2).1)
 have hb : smq (fun j => (List.range (F.n ^ n)).countP fun s => decide (apartTo (nthL (wordsTo F n m m.length) j) (hig s F.n n) n ≤ t)) K = K * (ballV F.n n t).toNat := by
  rw [← smq_const]
  refine smq_congr fun j hj => ?_
  rw [hK] at hj
  obtain ⟨hl1, he1, _⟩ := h.word_sp hj
  have := cnt_ball (q := F.n) (by omega) h.n32 hl1 he1 t
  rw [← this, Int.toNat_natCast, cntV]
 rw [hb] at hs
 have hp := ball_pos (q := F.n) (by omega) h.n32 t
 have hc : ((K * (ballV F.n n t).toNat : Nat) : Int) ≤ ((F.n ^ n : Nat) : Int) := by omega
 rw [Int.natCast_mul, Int.toNat_of_nonneg (by omega), Int.natCast_pow, hK, Int.natCast_pow, ht] at hc
 exact hc
end
end Go.Proofs.Ytpglmogoddgmoaa
