/-
  Texts joined.
-/
import Derived.Test.YtgmgpcaahanmiaaY5
set_option linter.unusedVariables false
set_option linter.unusedSimpArgs false
set_option maxRecDepth 100000
set_option maxHeartbeats 40000000
namespace Go.Proofs.Ytgmgpcaahanmiaa
open Go.RowKit
section
variable {F : FD}
def FD.sum (F : FD) (f : Nat → Int) : Nat → Int
 | 0 => 0
 | k + 1 => F.add (F.sum f k) (f k)
theorem sum_el (ok : F.Ok) (f : Nat → Int) (k : Nat) : F.el (F.sum f k) := by
 cases k with
 | zero => exact zero_el ok
 | succ k => exact lin_el ok _ _ _
theorem sum_congr {f g : Nat → Int} {k : Nat} (h : ∀ j, j < k → f j = g j) : F.sum f k = F.sum g k := by
 induction k with
 | zero => rfl
 | succ k ih => rw [FD.sum, FD.sum, ih (fun j hj => h j (by omega)), h k (by omega)]
theorem add4 (ok : F.Ok) (a b c d : Int) : F.add (F.add a b) (F.add c d) = F.add (F.add a c) (F.add b d) := by
 rw [add_assoc' ok, add_assoc' ok, ← add_assoc' ok b c d, ← add_assoc' ok c b d, add_comm' ok b c]
theorem sum_add (ok : F.Ok) (f g : Nat → Int) (k : Nat) : F.sum (fun j => F.add (f j) (g j)) k = F.add (F.sum f k) (F.sum g k) := by
 induction k with
 | zero => rw [FD.sum, FD.sum, FD.sum, add_zero' ok (zero_el ok)]
 | succ k ih => rw [FD.sum, FD.sum, FD.sum, ih, add4 ok]
theorem sum_zero (ok : F.Ok) {f : Nat → Int} {k : Nat} (h : ∀ j, j < k → f j = 0) : F.sum f k = 0 := by
 induction k with
 | zero => rfl
 | succ k ih => rw [FD.sum, ih (fun j hj => h j (by omega)), h k (by omega), add_zero' ok (zero_el ok)]
theorem sum_one (ok : F.Ok) {f : Nat → Int} {k l : Nat} (hl : l < k) (he : F.el (f l)) (h : ∀ j, j < k → j ≠ l → f j = 0) : F.sum f k = f l := by
 induction k with
 | zero => omega
 | succ k ih =>
  rw [FD.sum]
  by_cases e : l = k
  · subst e
    rw [sum_zero ok (fun j hj => h j (by omega) (by omega)), zero_add' ok he]
  · rw [ih (by omega) (fun j hj hne => h j (by omega) hne), h k (by omega) (fun e2 => e e2.symm), add_zero' ok he]
theorem mul_sum (ok : F.Ok) (c : Int) (f : Nat → Int) (k : Nat) : F.mul c (F.sum f k) = F.sum (fun j => F.mul c (f j)) k := by
 induction k with
 | zero => exact mul_zero_all ok c
 | succ k ih => rw [FD.sum, FD.sum, mul_add' ok, ih]
inductive Sp (F : FD) (rows : List (List Int)) : (Nat → Int) → Prop
 | zero : Sp F rows (fun _ => 0)
 | step {v : Nat → Int} {j : Nat} {c : Int} (h : Sp F rows v) (hj : j < rows.length) (hc : F.el c) : Sp F rows (fun i => F.add (v i) (F.mul c (nth (nthL rows j) i)))
variable {rows A B : List (List Int)}
theorem Sp.el (ok : F.Ok) {v : Nat → Int} (h : Sp F rows v) (i : Nat) : F.el (v i) := by
 cases h with
 | zero => exact zero_el ok
 | step => exact lin_el ok _ _ _
theorem Sp.add (ok : F.Ok) {u v : Nat → Int} (hu : Sp F rows u) (hv : Sp F rows v) : Sp F rows (fun i => F.add (u i) (v i)) := by
 induction hv with
 | zero =>
  have e : (fun i => F.add (u i) 0) = u := by funext i; rw [add_zero' ok (hu.el ok i)]
  rw [e]; exact hu
 | @step v j c h hj hc ih =>
  have e : (fun i => F.add (u i) (F.add (v i) (F.mul c (nth (nthL rows j) i)))) = fun i => F.add (F.add (u i) (v i)) (F.mul c (nth (nthL rows j) i)) := by funext i; rw [add_assoc' ok]
  rw [e]; exact ih.step hj hc
theorem Sp.mul (ok : F.Ok) {v : Nat → Int} (hv : Sp F rows v) {a : Int} : Sp F rows (fun i => F.mul a (v i)) := by
 induction hv with
 | zero =>
  have e : (fun _ : Nat => F.mul a 0) = fun _ => 0 := by funext i; rw [mul_zero_all ok]
  rw [e]; exact .zero
 | @step v j c h hj hc ih =>
  have e : (fun i => F.mul a (F.add (v i) (F.mul c (nth (nthL rows j) i)))) = fun i => F.add (F.mul a (v i)) (F.mul (F.mul a c) (nth (nthL rows j) i)) := by funext i; rw [mul_add' ok, mul_assoc_all ok]
  rw [e]; exact ih.step hj (mul_el ok _ _)
theorem one_el (ok : F.Ok) : F.el 1 := (el_n ok).2 (by have := ok.n_bd; omega)
theorem nth_el {n : Nat} (ok : F.Ok) (hM : F.Mat n rows) {j : Nat} (hj : j < rows.length) (i : Nat) : F.el (nth (nthL rows j) i) := by
 rcases Nat.lt_or_ge i (nthL rows j).length with h | h
 · exact (el_n ok).2 ((Mat_nth hM hj).2 _ (nth_mem h))
 · rw [nth_big h]; exact zero_el ok
theorem Sp.row {n : Nat} (ok : F.Ok) (hM : F.Mat n rows) {j : Nat} (hj : j < rows.length) : Sp F rows (nth (nthL rows j)) := by
 have h := Sp.zero (F := F) (rows := rows) |>.step hj (one_el ok)
 have e : (fun i => F.add 0 (F.mul 1 (nth (nthL rows j) i))) = nth (nthL rows j) := by
  funext i
  have := nth_el ok hM hj i
  rw [one_mul' ok this, zero_add' ok this]
 rw [e] at h; exact h
theorem Sp.of (ok : F.Ok) (h : ∀ j, j < B.length → Sp F A (nth (nthL B j))) {v : Nat → Int} (hv : Sp F B v) : Sp F A v := by
 induction hv with
 | zero => exact .zero
 | @step v j c hs hj hc ih => exact ih.add ok ((h j hj).mul ok)
theorem Sp.sub (ok : F.Ok) {u v : Nat → Int} (hu : Sp F rows u) (hv : Sp F rows v) (c : Int) : Sp F rows (fun i => F.sub (u i) (F.mul c (v i))) := by
 have h := hu.add ok (hv.mul ok (a := F.sub 0 c))
 have e : (fun i => F.add (u i) (F.mul (F.sub 0 c) (v i))) = fun i => F.sub (u i) (F.mul c (v i)) := by
  funext i
  exact add_neg_mul (by have := ok.p2; omega) ok.len (u i) c (v i)
 rw [e] at h; exact h
theorem Sp.big {n : Nat} (ok : F.Ok) (hM : F.Mat n rows) {v : Nat → Int} (h : Sp F rows v) {i : Nat} (hi : n ≤ i) : v i = 0 := by
 induction h with
 | zero => rfl
 | @step v j c h hj hc ih =>
  show F.add (v i) (F.mul c (nth (nthL rows j) i)) = 0
  rw [ih, nth_big (by rw [(Mat_nth hM hj).1]; exact hi), mul_zero_all ok, add_zero' ok (zero_el ok)]
structure Ech (F : FD) (n : Nat) (rows : List (List Int)) (piv : List Nat) : Prop where
 mat : F.Mat n rows
 len : piv.length = rows.length
 lt : ∀ j, j < piv.length → piv.getD j 0 < n
 mono : ∀ i j, i < j → j < piv.length → piv.getD i 0 < piv.getD j 0
 one : ∀ i j, i < piv.length → j < piv.length → nth (nthL rows i) (piv.getD j 0) = if i = j then 1 else 0
 lead : ∀ j i, j < piv.length → i < piv.getD j 0 → nth (nthL rows j) i = 0
variable {n : Nat} {piv : List Nat}
theorem Ech.coord (ok : F.Ok) (h : Ech F n rows piv) {v : Nat → Int} (hv : Sp F rows v) (i : Nat) : v i = F.sum (fun j => F.mul (v (piv.getD j 0)) (nth (nthL rows j) i)) rows.length := by
 induction hv with
 | zero => exact (sum_zero ok fun j _ => zero_mul_all ok _).symm
 | @step v l c hs hl hc ih =>
  rw [show (fun j => F.mul (F.add (v (piv.getD j 0)) (F.mul c (nth (nthL rows l) (piv.getD j 0)))) (nth (nthL rows j) i)) = fun j => F.add (F.mul (v (piv.getD j 0)) (nth (nthL rows j) i)) (F.mul (F.mul c (nth (nthL rows l) (piv.getD j 0))) (nth (nthL rows j) i)) by funext j; rw [add_mul' ok]]
  rw [sum_add ok, ← ih]
  congr 1
  have hl' : l < piv.length := by rw [h.len]; exact hl
  rw [sum_one ok (l := l) hl (mul_el ok _ _) (fun j hj hne => by rw [h.one l j hl' (by rw [h.len]; exact hj), if_neg (Ne.symm hne), mul_zero_all ok, zero_mul_all ok])]
  rw [h.one l l hl' hl', if_pos rfl, mul_comm' ok c 1, one_mul' ok hc]
theorem Ech.zero_of (ok : F.Ok) (h : Ech F n rows piv) {v : Nat → Int} (hv : Sp F rows v) (h0 : ∀ j, j < piv.length → v (piv.getD j 0) = 0) (i : Nat) : v i = 0 := by
 rw [h.coord ok hv i]
 exact sum_zero ok fun j hj => by rw [h0 j (by rw [h.len]; exact hj), zero_mul_all ok]
theorem Ech.lead_piv (ok : F.Ok) (h : Ech F n rows piv) {v : Nat → Int} (hv : Sp F rows v) {l : Nat} (h1 : v l ≠ 0) (h2 : ∀ i, i < l → v i = 0) : l ∈ piv := by
 rcases Classical.em (l ∈ piv) with hm | hm
 · exact hm
 · exfalso
   apply h1
   rw [h.coord ok hv l]
   refine sum_zero ok fun j hj => ?_
   have hj' : j < piv.length := by rw [h.len]; exact hj
   rcases Nat.lt_trichotomy (piv.getD j 0) l with hlt | heq | hgt
   · rw [h2 _ hlt, zero_mul_all ok]
   · exact absurd (by rw [← heq, List.getD_eq_getElem?_getD, List.getElem?_eq_getElem hj']; exact List.getElem_mem hj') hm
   · rw [h.lead j l hj' hgt, mul_zero_all ok]
theorem sorted_ext {p q : List Nat} (hp : ∀ i j, i < j → j < p.length → p.getD i 0 < p.getD j 0) (hq : ∀ i j, i < j → j < q.length → q.getD i 0 < q.getD j 0) (h : ∀ x, x ∈ p ↔ x ∈ q) : p = q := by
 have pw : ∀ {p : List Nat}, (∀ i j, i < j → j < p.length → p.getD i 0 < p.getD j 0) → p.Pairwise (· < ·) := fun {p} hp => by
  rw [List.pairwise_iff_getElem]
  intro i j hi hj hij
  have := hp i j hij hj
  rwa [List.getD_eq_getElem?_getD, List.getElem?_eq_getElem hi, List.getD_eq_getElem?_getD, List.getElem?_eq_getElem hj] at this
 exact List.Perm.eq_of_pairwise (le := (· < ·)) (fun a b _ _ h1 h2 => absurd h1 (Nat.lt_asymm h2)) (pw hp) (pw hq) ((List.perm_ext_iff_of_nodup ((pw hp).imp Nat.ne_of_lt) ((pw hq).imp Nat.ne_of_lt)).2 h)
end
end Go.Proofs.Ytgmgpcaahanmiaa
namespace Go.Proofs.Ytgmgpcaahanmiaa
open Go.RowKit
def encTo (F : FD) (n : Nat) (rows : List (List Int)) (msg : List Int) : Nat → List Int
 | 0 => zeros n
 | k + 1 => addTo F (encTo F n rows msg k) (nthL rows k) (nth msg k) n
theorem encTo_len (F : FD) (n : Nat) (rows : List (List Int)) (msg : List Int) (k : Nat) : (encTo F n rows msg k).length = n := by
 induction k with
 | zero => exact zeros_len n
 | succ k ih => rw [encTo, addTo_len, ih]
theorem addTo_bd {F : FD} (ok : F.Ok) {xs ys : List Int} (s : Int) {k : Nat} (hk : k ≤ xs.length) (h : ∀ x ∈ xs, 0 ≤ x ∧ x < F.n) : ∀ x ∈ addTo F xs ys s k, 0 ≤ x ∧ x < F.n := by
 intro x hx
 obtain ⟨i, hi, rfl⟩ := List.getElem_of_mem hx
 rw [← nth_lt hi, addTo_nth F xs ys s k hk]
 rw [addTo_len] at hi
 split
 · exact add_bd ok _ _
 · exact h _ (nth_mem hi)
theorem encTo_el {F : FD} (ok : F.Ok) (n : Nat) (rows : List (List Int)) (msg : List Int) (k : Nat) : ∀ x ∈ encTo F n rows msg k, 0 ≤ x ∧ x < F.n := by
 induction k with
 | zero =>
  intro x hx
  rw [encTo, zeros, List.mem_replicate] at hx
  have := ok.n_bd
  omega
 | succ k ih => exact addTo_bd ok _ (by rw [encTo_len]; exact Nat.le_refl _) ih
theorem encTo_congr (F : FD) (n : Nat) (rows : List (List Int)) {m1 m2 : List Int} {k : Nat} (h : ∀ i, i < k → nth m1 i = nth m2 i) : encTo F n rows m1 k = encTo F n rows m2 k := by
 induction k with
 | zero => rfl
 | succ k ih => rw [encTo, encTo, ih (fun i hi => h i (by omega)), h k (by omega)]
def hig (j q k : Nat) : List Int := (dig j q k).reverse
theorem hig_len (j q k : Nat) : (hig j q k).length = k := by rw [hig, List.length_reverse, dig_len]
theorem hig_succ (j x : Nat) {q : Nat} (hx : x < q) (k : Nat) : hig (j * q + x) q (k + 1) = hig j q k ++ [(x : Int)] := by
 have hq : (0 : Int) < q := by omega
 rw [hig, dig_cons _ _ hq, List.reverse_cons, hig]
 have e1 : ((j * q + x : Nat) : Int) % (q : Int) = x := by
  rw [← Int.natCast_emod]
  congr 1
  rw [Nat.add_comm, Nat.add_mul_mod_self_right, Nat.mod_eq_of_lt hx]
 have e2 : ((j * q + x : Nat) : Int) / (q : Int) = j := by
  rw [← Int.natCast_ediv]
  congr 1
  rw [Nat.add_comm, Nat.add_mul_div_right _ _ (by omega), Nat.div_eq_of_lt hx, Nat.zero_add]
 rw [e1, e2]
theorem hig_el (j : Nat) {q : Nat} (hq : 0 < q) (k : Nat) : ∀ c ∈ hig j q k, 0 ≤ c ∧ c < q := fun c hc => dig_range (by omega) k c (List.mem_reverse.1 hc)
def wordsTo (F : FD) (n : Nat) (rows : List (List Int)) (k : Nat) : List (List Int) := (List.range (F.n ^ k)).map fun j => encTo F n rows (hig j F.n k) k
theorem wordsTo_len (F : FD) (n : Nat) (rows : List (List Int)) (k : Nat) : (wordsTo F n rows k).length = F.n ^ k := by simp [wordsTo]
theorem wordsTo_nth (F : FD) (n : Nat) (rows : List (List Int)) {k j : Nat} (hj : j < F.n ^ k) : nthL (wordsTo F n rows k) j = encTo F n rows (hig j F.n k) k := by simp [wordsTo, nthL, hj]
theorem nth_snoc_lt {m : List Int} {x : Int} {i : Nat} (h : i < m.length) : nth (m ++ [x]) i = nth m i := by
 rw [nth, nth, List.getD_eq_getElem?_getD, List.getElem?_append_left h, ← List.getD_eq_getElem?_getD]
theorem nth_snoc_eq {m : List Int} {x : Int} : nth (m ++ [x]) m.length = x := by simp [nth]
theorem enc_snoc (F : FD) (n : Nat) (rows : List (List Int)) (j : Nat) {x : Nat} (hx : x < F.n) (k : Nat) : encTo F n rows (hig (j * F.n + x) F.n (k + 1)) (k + 1) = addTo F (encTo F n rows (hig j F.n k) k) (nthL rows k) x n := by
 rw [hig_succ j x hx, encTo]
 congr 1
 · exact encTo_congr F n rows fun i hi => nth_snoc_lt (by rw [hig_len]; exact hi)
 · have h := nth_snoc_eq (m := hig j F.n k) (x := (x : Int))
   rw [hig_len] at h
   exact h
theorem range_mul {α : Type} (f : Nat → α) (b : Nat) : ∀ a : Nat, (List.range (a * b)).map f = (List.range a).flatMap fun j => (List.range b).map fun x => f (j * b + x)
 | 0 => by simp
 | a + 1 => by
  rw [Nat.succ_mul, List.range_add, List.map_append, range_mul f b a, List.range_succ, List.flatMap_append, List.map_map]
  simp [Function.comp_def]
theorem wordsTo_succ (F : FD) (n : Nat) (rows : List (List Int)) (k : Nat) : wordsTo F n rows (k + 1) = (wordsTo F n rows k).flatMap fun wd => (List.range F.n).map fun (x : Nat) => addTo F wd (nthL rows k) x n := by
 rw [wordsTo, Nat.pow_succ, range_mul, wordsTo, List.flatMap_map]
 congr 1
 funext j
 refine List.map_congr_left fun x hx => ?_
 exact enc_snoc F n rows j (List.mem_range.1 hx) k
def plus (F : FD) (a b : List Int) : List Int := (List.range a.length).map fun (i : Nat) => F.add (nth a i) (nth b i)
theorem plus_len (F : FD) (a b : List Int) : (plus F a b).length = a.length := by simp [plus]
theorem plus_nth (F : FD) (a b : List Int) {i : Nat} (h : i < a.length) : nth (plus F a b) i = F.add (nth a i) (nth b i) := by simp [plus, nth, h]
theorem plus_scale (F : FD) {wd row : List Int} (hl : row.length = wd.length) (x : Int) : plus F wd (scale F x row) = addTo F wd row x wd.length := by
 refine eq_of_nth (by rw [plus_len, addTo_len]) fun i hi => ?_
 rw [plus_len] at hi
 rw [plus_nth F _ _ hi, addTo_nth F _ _ _ _ (Nat.le_refl _), if_pos hi, scale_nth F x (by omega)]
end Go.Proofs.Ytgmgpcaahanmiaa
