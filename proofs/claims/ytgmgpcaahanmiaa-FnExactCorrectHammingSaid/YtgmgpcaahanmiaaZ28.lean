/-
  Plain mathematics: the echelon form has the rows' span; two echelon forms of one span are the same.
-/
import Derived.BigQuiet
import Derived.Deep.DeepCutAuto
import Derived.Deep.DeepMust
import Derived.Deep.DrawnRows
import Derived.Deep.Draws
import Derived.Deep.OwnRows
import Derived.Deep.QuietTactic
import Derived.Deep.RegionHeld3
import Derived.IntWalk
import Derived.Laws.Rows
import Derived.Lib.Hide
import Derived.Maps.AppendAt
import Derived.StillTailTactics
import Derived.Test.YtgmgpcaahanmiaaProg
import Derived.WalkKit
import Derived.WalkLawsBesides
import Derived.WalkSpells
import Derived.Test.YtgmgpcaahanmiaaZ7
import Derived.Test.YtgmgpcaahanmiaaZ8
import Derived.Test.YtgmgpcaahanmiaaZ27
set_option linter.unusedVariables false
set_option linter.unusedSimpArgs false
namespace Go.Proofs.Ytgmgpcaahanmiaa
open Go.RowKit

section
variable {F : FD} {n : Nat} {A B rows : List (List Int)} {pa pb : List Nat}
theorem getD_mem {p : List Nat} {j : Nat} (h : j < p.length) : p.getD j 0 ∈ p := by
  rw [List.getD_eq_getElem?_getD, List.getElem?_eq_getElem h]; exact List.getElem_mem h
theorem mem_getD {p : List Nat} {x : Nat} (h : x ∈ p) : ∃ j, j < p.length ∧ p.getD j 0 = x := by
  obtain ⟨j, hj, rfl⟩ := List.getElem_of_mem h
  exact ⟨j, hj, by rw [List.getD_eq_getElem?_getD, List.getElem?_eq_getElem hj]; rfl⟩
theorem Ech.sub_piv (ok : F.Ok) (hA : Ech F n A pa) (hB : Ech F n B pb) (h : ∀ v, Sp F A v → Sp F B v) {x : Nat} (hx : x ∈ pa) : x ∈ pb := by
  obtain ⟨j, hj, rfl⟩ := mem_getD hx
  have hj' : j < A.length := by rw [← hA.len]; exact hj
  refine hB.lead_piv ok (h _ (Sp.row ok hA.mat hj')) ?_ (fun i hi => hA.lead j i hj hi)
  rw [hA.one j j hj hj, if_pos rfl]; decide
theorem Ech.piv_eq (ok : F.Ok) (hA : Ech F n A pa) (hB : Ech F n B pb) (h : ∀ v, Sp F A v ↔ Sp F B v) : pa = pb :=
  sorted_ext hA.mono hB.mono fun _ => ⟨fun hx => hA.sub_piv ok hB (fun v => (h v).1) hx, fun hx => hB.sub_piv ok hA (fun v => (h v).2) hx⟩
/-- One span, one echelon form. -/
theorem Ech.unique (ok : F.Ok) (hA : Ech F n A pa) (hB : Ech F n B pb) (h : ∀ v, Sp F A v ↔ Sp F B v) : A = B := by
  have hp := hA.piv_eq ok hB h
  subst hp
  refine eq_of_nthL (by rw [← hA.len, ← hB.len]) fun j hj => ?_
  have hj' : j < B.length := by rw [← hB.len, hA.len]; exact hj
  have hjp : j < pa.length := by rw [hA.len]; exact hj
  refine eq_of_nth (by rw [(Mat_nth hA.mat hj).1, (Mat_nth hB.mat hj').1]) fun i _ => ?_
  have hu := (Sp.row ok hA.mat hj).sub ok ((h _).2 (Sp.row ok hB.mat hj')) 1
  have hz : F.sub (nth (nthL A j) i) (F.mul 1 (nth (nthL B j) i)) = 0 := hA.zero_of ok hu (fun l hl => by
    show F.sub (nth (nthL A j) (pa.getD l 0)) (F.mul 1 (nth (nthL B j) (pa.getD l 0))) = 0
    rw [hA.one j l hjp hl, hB.one j l hjp hl]
    split
    · rw [one_mul' ok (one_el ok), sub_self' ok]
    · rw [mul_zero_all ok, sub_self' ok]) i
  rw [one_mul' ok (nth_el ok hB.mat hj' i)] at hz
  exact eq_of_sub ok (nth_el ok hA.mat hj i) (nth_el ok hB.mat hj' i) hz
theorem nodup_len : ∀ {p q : List Nat}, p.Nodup → (∀ x, x ∈ p → x ∈ q) → p.length ≤ q.length
  | [], q, _, _ => by simp
  | x :: p, q, hn, hs => by
    have hx := hs x List.mem_cons_self
    have h := nodup_len (p := p) (q := q.erase x) (List.nodup_cons.1 hn).2 (fun y hy => (List.mem_erase_of_ne (fun e => (List.nodup_cons.1 hn).1 (by rw [← e]; exact hy))).2 (hs y (List.mem_cons_of_mem _ hy)))
    rw [List.length_erase_of_mem hx] at h
    have := List.length_pos_of_mem hx
    simp; omega
theorem nodup_all {p q : List Nat} (hp : p.Nodup) (hs : ∀ x, x ∈ p → x ∈ q) (hl : q.length ≤ p.length) {y : Nat} (hy : y ∈ q) : y ∈ p := by
  rcases Classical.em (y ∈ p) with h | h
  · exact h
  · have := nodup_len (p := y :: p) (q := q) (List.nodup_cons.2 ⟨h, hp⟩) (fun x hx => by
      rcases List.mem_cons.1 hx with rfl | hx
      · exact hy
      · exact hs x hx)
    simp at this
    omega
theorem Ech.nodup (hA : Ech F n A pa) : pa.Nodup := by
  rw [List.nodup_iff_pairwise_ne, List.pairwise_iff_getElem]
  intro i j hi hj hij e
  have := hA.mono i j hij hj
  rw [List.getD_eq_getElem?_getD, List.getElem?_eq_getElem hi, List.getD_eq_getElem?_getD, List.getElem?_eq_getElem hj] at this
  simp only [Option.getD_some] at this
  omega
theorem Ech.len_le (ok : F.Ok) (hA : Ech F n A pa) (hB : Ech F n B pb) (h : ∀ v, Sp F A v → Sp F B v) : A.length ≤ B.length := by
  rw [← hA.len, ← hB.len]
  exact nodup_len hA.nodup fun x hx => hA.sub_piv ok hB h hx
/-- A span within a span of as many rows is all of it. -/
theorem Ech.all_of_len (ok : F.Ok) (hA : Ech F n A pa) (hB : Ech F n B pb) (h : ∀ v, Sp F A v → Sp F B v) (hl : B.length ≤ A.length) {v : Nat → Int} (hv : Sp F B v) : Sp F A v := by
  have hpe : pa = pb := by
    refine sorted_ext hA.mono hB.mono fun x => ⟨fun hx => hA.sub_piv ok hB h hx, fun hx => ?_⟩
    exact nodup_all hA.nodup (fun y hy => hA.sub_piv ok hB h hy) (by rw [hA.len, hB.len]; exact hl) hx
  subst hpe
  -- v less its part in A has zeros at the pivots
  have hlin : ∀ k, k ≤ A.length → Sp F A (fun i => F.sum (fun j => F.mul (v (pa.getD j 0)) (nth (nthL A j) i)) k) := by
    intro k
    induction k with
    | zero => intro _; exact .zero
    | succ k ih => intro hk; exact (ih (by omega)).step (by omega) (hv.el ok _)
  have hu := hlin A.length (Nat.le_refl _)
  have hd := hv.sub ok (h _ hu) 1
  have hz := hB.zero_of ok hd (fun l hl2 => by
    show F.sub (v (pa.getD l 0)) (F.mul 1 (F.sum (fun j => F.mul (v (pa.getD j 0)) (nth (nthL A j) (pa.getD l 0))) A.length)) = 0
    have hl3 : l < A.length := by rw [← hA.len]; exact hl2
    rw [one_mul' ok (sum_el ok _ _), sum_one ok (l := l) hl3 (mul_el ok _ _) (fun j hj hne => by rw [hA.one j l (by rw [hA.len]; exact hj) hl2, if_neg hne, mul_zero_all ok]), hA.one l l hl2 hl2, if_pos rfl, mul_comm' ok, one_mul' ok (hv.el ok _), sub_self' ok])
  have e : v = fun i => F.sum (fun j => F.mul (v (pa.getD j 0)) (nth (nthL A j) i)) A.length := by
    funext i
    have this : F.sub (v i) (F.mul 1 (F.sum (fun j => F.mul (v (pa.getD j 0)) (nth (nthL A j) i)) A.length)) = 0 := hz i
    rw [one_mul' ok (sum_el ok _ _)] at this
    exact eq_of_sub ok (hv.el ok i) (sum_el ok _ _) this
  rw [e]; exact hu

/-! ### What the columns' loop keeps -/
theorem scale_nth_all (ok : F.Ok) (c : Int) (xs : List Int) (i : Nat) : nth (scale F c xs) i = F.mul c (nth xs i) := by
  rcases Nat.lt_or_ge i xs.length with h | h
  · exact scale_nth F c h
  · rw [nth_big (by rw [scale_len]; exact h), nth_big h, mul_zero_all ok]
theorem less_nth_all (ok : F.Ok) (xs ys : List Int) (c : Int) (hl : ys.length = xs.length) (i : Nat) : nth (less F xs ys c) i = F.sub (nth xs i) (F.mul c (nth ys i)) := by
  rcases Nat.lt_or_ge i xs.length with h | h
  · exact less_nth F xs ys c h
  · rw [nth_big (by rw [less_len]; exact h), nth_big h, nth_big (xs := ys) (by omega), mul_zero_all ok, sub_self' ok]
theorem pivAt_cases (rows : List (List Int)) (c t : Nat) : (pivAt rows c t = rows.length ∧ ∀ j, t ≤ j → j < rows.length → nth (nthL rows j) c = 0) ∨ (t ≤ pivAt rows c t ∧ pivAt rows c t < rows.length ∧ nth (nthL rows (pivAt rows c t)) c ≠ 0) := by
  unfold pivAt
  cases hf : (List.range rows.length).find? (fun i => decide (t ≤ i) && (nth (nthL rows i) c != 0)) with
  | none =>
    left
    rw [List.find?_eq_none] at hf
    refine ⟨rfl, fun j h1 h2 => ?_⟩
    have := hf j (List.mem_range.2 h2)
    simpa [h1] using this
  | some i =>
    right
    have h1 := List.find?_some hf
    have h2 := List.mem_range.1 (List.mem_of_find?_eq_some hf)
    simp only [Bool.and_eq_true, decide_eq_true_eq, bne_iff_ne] at h1
    exact ⟨h1.1, h2, h1.2⟩
structure RI (F : FD) (n : Nat) (rows0 : List (List Int)) (c : Nat) (R : List (List Int)) (piv : List Int) (pv : List Nat) : Prop where
  mat : F.Mat n R
  len : R.length = rows0.length
  cast : piv = pv.map fun (x : Nat) => (x : Int)
  ple : pv.length ≤ R.length
  lt : ∀ j, j < pv.length → pv.getD j 0 < c
  mono : ∀ i j, i < j → j < pv.length → pv.getD i 0 < pv.getD j 0
  one : ∀ i j, i < R.length → j < pv.length → nth (nthL R i) (pv.getD j 0) = if i = j then 1 else 0
  lead : ∀ j i, j < pv.length → i < pv.getD j 0 → nth (nthL R j) i = 0
  rest : ∀ i col, pv.length ≤ i → i < R.length → col < c → nth (nthL R i) col = 0
  into : ∀ j, j < rows0.length → Sp F R (nth (nthL rows0 j))
  back : ∀ j, j < R.length → Sp F rows0 (nth (nthL R j))
theorem RI.start (ok : F.Ok) {rows0 : List (List Int)} (hM : F.Mat n rows0) : RI F n rows0 0 rows0 [] [] :=
  ⟨hM, rfl, rfl, Nat.zero_le _, by simp, by simp, by simp, by simp, by omega, fun j hj => Sp.row ok hM hj, fun j hj => Sp.row ok hM hj⟩
theorem getD_snoc_lt {p : List Nat} {x j : Nat} (h : j < p.length) : (p ++ [x]).getD j 0 = p.getD j 0 := by
  rw [List.getD_eq_getElem?_getD, List.getElem?_append_left h, ← List.getD_eq_getElem?_getD]
theorem getD_snoc_eq {p : List Nat} {x : Nat} : (p ++ [x]).getD p.length 0 = x := by
  simp [List.getD_eq_getElem?_getD]
theorem RI.go (hG : F.Good) {rows0 R : List (List Int)} {piv : List Int} {pv : List Nat} {c i : Nat} (h : RI F n rows0 c R piv pv) (ht : pv.length < R.length) (hti : pv.length ≤ i) (hi : i < R.length) (hne : nth (nthL R i) c ≠ 0) :
    RI F n rows0 (c + 1) (redOne F c pv.length R i) (piv ++ [(c : Int)]) (pv ++ [c]) := by
  have ok := hG.ok
  obtain ⟨t, htt⟩ : ∃ t, t = pv.length := ⟨_, rfl⟩
  rw [← htt] at ht hti ⊢
  have hel := (el_n ok).1 (nth_el ok h.mat hi c)
  obtain ⟨l, hl⟩ : ∃ l, l = nth (nthL R i) c := ⟨_, rfl⟩
  rw [← hl] at hne hel
  obtain ⟨i1, i2, i3, _⟩ := inv_spec hG (a := l) (by omega) hel.2
  -- the new top row
  obtain ⟨W, hW⟩ : ∃ W, W = scale F (F.inv l) (nthL R i) := ⟨_, rfl⟩
  have hWn : ∀ q, nth W q = F.mul (F.inv l) (nth (nthL R i) q) := fun q => by rw [hW, scale_nth_all ok]
  have hWc : nth W c = 1 := by rw [hWn, ← hl, mul_comm' ok, i1]
  have hW0 : ∀ q, q < c → nth W q = 0 := fun q hq => by rw [hWn, h.rest i q (by omega) hi hq, mul_zero_all ok]
  have hWl : W.length = n := by rw [hW, scale_len]; exact (Mat_nth h.mat hi).1
  have htop : nthL (topped F c t R i) t = W := by rw [topped_top F c ht, hW, hl]
  obtain ⟨X, hX⟩ : ∃ X : Nat → List Int, X = fun q => if q = i then nthL R t else nthL R q := ⟨_, rfl⟩
  have htq : ∀ q, q ≠ t → q < R.length → nthL (topped F c t R i) q = X q := fun q hq hqr => by
    rw [hX]
    unfold topped
    rw [nthL_set_ne (Ne.symm hq)]
    by_cases e : q = i
    · subst e; rw [nthL_set_same hqr]; simp
    · rw [nthL_set_ne (Ne.symm e)]; simp [e]
  have hXl : ∀ q, q < R.length → (X q).length = n := fun q hq => by
    rw [hX]
    simp only []
    split
    · exact (Mat_nth h.mat ht).1
    · exact (Mat_nth h.mat hq).1
  have hXe : ∀ q, q < R.length → ∀ k, F.el (nth (X q) k) := fun q hq k => by
    rw [hX]
    simp only []
    split
    · exact nth_el ok h.mat ht k
    · exact nth_el ok h.mat hq k
  have htl := topped_len F c t R i
  have hnew : ∀ q, q < R.length → nthL (redOne F c t R i) q = if q = t then W else less F (X q) W (nth (X q) c) := fun q hq => by
    rw [redOne, elimTo_nth _ (by rw [htl]; exact Nat.le_refl _)]
    by_cases e : q = t
    · subst e
      rw [if_neg (by omega), if_pos rfl, htop]
    · rw [if_pos ⟨hq, e⟩, if_neg e, htq q e hq, htop]
  have hnn : ∀ q k, q < R.length → q ≠ t → nth (nthL (redOne F c t R i) q) k = F.sub (nth (X q) k) (F.mul (nth (X q) c) (nth W k)) := fun q k hq e => by
    rw [hnew q hq, if_neg e, less_nth_all ok _ _ _ (by rw [hWl, hXl q hq])]
  have hlow : ∀ q k, q < R.length → q ≠ t → k < c → nth (nthL (redOne F c t R i) q) k = nth (X q) k := fun q k hq e hk => by
    rw [hnn q k hq e, hW0 k hk, mul_zero_all ok, sub_zero_el ok (hXe q hq k)]
  have hc0 : ∀ q, q < R.length → q ≠ t → nth (nthL (redOne F c t R i) q) c = 0 := fun q hq e => by
    rw [hnn q c hq e, hWc, mul_comm' ok, one_mul' ok (hXe q hq c), sub_self' ok]
  have hlen : (redOne F c t R i).length = R.length := redOne_len F c t R i
  have hmat : F.Mat n (redOne F c t R i) := by
    rw [redOne]
    exact elimTo_Mat ok (topped_Mat ok h.mat hi ht) _ (by rw [htl]; exact Nat.le_refl _)
  -- X below t is the old row, X from t on is an old row from t on
  have hXlow : ∀ q, q < t → X q = nthL R q := fun q hq => by rw [hX]; simp only []; rw [if_neg (by omega)]
  have hXhi : ∀ q k, t ≤ q → q < R.length → k < c → nth (X q) k = 0 := fun q k hq hqr hk => by
    rw [hX]
    simp only []
    split
    · exact h.rest t k (by omega) ht hk
    · exact h.rest q k (by omega) hqr hk
  have hpl : (pv ++ [c]).length = t + 1 := by simp [htt]
  have hpj : ∀ j, j < t → (pv ++ [c]).getD j 0 = pv.getD j 0 := fun j hj => getD_snoc_lt (by omega)
  have hpt : (pv ++ [c]).getD t 0 = c := by rw [htt]; exact getD_snoc_eq
  have hplt : ∀ j, j < t → pv.getD j 0 < c := fun j hj => h.lt j (by omega)
  -- spans
  have sW : Sp F R (nth W) := by
    have := (Sp.row ok h.mat hi).mul ok (a := F.inv l)
    have e : (fun k => F.mul (F.inv l) (nth (nthL R i) k)) = nth W := by funext k; rw [hWn]
    rw [e] at this; exact this
  have sX : ∀ q, q < R.length → Sp F R (nth (X q)) := fun q hq => by
    rw [hX]
    simp only []
    split
    · exact Sp.row ok h.mat ht
    · exact Sp.row ok h.mat hq
  have sNew : ∀ q, q < (redOne F c t R i).length → Sp F R (nth (nthL (redOne F c t R i) q)) := fun q hq => by
    rw [hlen] at hq
    by_cases e : q = t
    · rw [hnew q hq, if_pos e]; exact sW
    · have := (sX q hq).sub ok sW (nth (X q) c)
      have e2 : (fun k => F.sub (nth (X q) k) (F.mul (nth (X q) c) (nth W k))) = nth (nthL (redOne F c t R i) q) := by funext k; rw [hnn q k hq e]
      rw [e2] at this; exact this
  have tN : nthL (redOne F c t R i) t = W := by rw [hnew t ht, if_pos rfl]
  have sW2 : Sp F (redOne F c t R i) (nth W) := by
    have := Sp.row ok hmat (j := t) (by rw [hlen]; exact ht)
    rwa [tN] at this
  have sX2 : ∀ q, q < R.length → q ≠ t → Sp F (redOne F c t R i) (nth (X q)) := fun q hq e => by
    have := (Sp.row ok hmat (j := q) (by rw [hlen]; exact hq)).add ok (sW2.mul ok (a := nth (X q) c))
    have e2 : (fun k => F.add (nth (nthL (redOne F c t R i) q) k) (F.mul (nth (X q) c) (nth W k))) = nth (X q) := by
      funext k
      rw [hnn q k hq e]
      exact lin_eq ok (lin_el ok _ _ _) (hXe q hq k) (fun z hz => D_lin2 ok hz (D_lin ok _ _ _ hz) (Cg.refl _ _)) (fun z _ => Cg.refl _ _) fun z => by omega
    rw [e2] at this; exact this
  have sOldI : Sp F (redOne F c t R i) (nth (nthL R i)) := by
    have := sW2.mul ok (a := l)
    have e2 : (fun k => F.mul l (nth W k)) = nth (nthL R i) := by
      funext k
      rw [hWn, ← mul_assoc_all ok, i1, one_mul' ok (nth_el ok h.mat hi k)]
    rw [e2] at this; exact this
  have sOld : ∀ q, q < R.length → Sp F (redOne F c t R i) (nth (nthL R q)) := fun q hq => by
    by_cases e : q = i
    · rw [e]; exact sOldI
    · by_cases e2 : q = t
      · have hit : i ≠ t := fun e3 => e (by rw [e2, e3])
        have := sX2 i hi hit
        rw [hX] at this
        simp only [if_true] at this
        rw [e2]; exact this
      · have := sX2 q hq e2
        rw [hX] at this
        simp only [if_neg e] at this
        exact this
  refine ⟨hmat, hlen.trans h.len, by rw [List.map_append, h.cast]; rfl, by rw [hpl, hlen]; omega, fun j hj => ?_, fun a j haj hj => ?_, fun q j hq hj => ?_, fun j k hj hk => ?_, fun q col hq hqr hcol => ?_, fun j hj => Sp.of ok (fun q hq => sOld q hq) (h.into j hj), fun j hj => Sp.of ok (fun q hq => h.back q hq) (sNew j hj)⟩
  · rw [hpl] at hj
    by_cases e : j = t
    · rw [e, hpt]; omega
    · rw [hpj j (by omega)]; have := hplt j (by omega); omega
  · rw [hpl] at hj
    by_cases e : j = t
    · rw [e, hpt, hpj a (by omega)]; exact hplt a (by omega)
    · rw [hpj j (by omega), hpj a (by omega)]; exact h.mono a j haj (by omega)
  · rw [hpl] at hj
    rw [hlen] at hq
    by_cases e : j = t
    · rw [e, hpt]
      by_cases e2 : q = t
      · rw [e2, tN, hWc, if_pos rfl]
      · rw [hc0 q hq e2, if_neg e2]
    · have hjt : j < t := by omega
      rw [hpj j hjt]
      have hp := hplt j hjt
      by_cases e2 : q = t
      · rw [e2, tN, hW0 _ hp, if_neg (by omega)]
      · rw [hlow q _ hq e2 hp]
        by_cases e3 : q < t
        · rw [hXlow q e3]; exact h.one q j hq (by omega)
        · rw [hXhi q _ (by omega) hq hp, if_neg (by omega)]
  · rw [hpl] at hj
    by_cases e : j = t
    · rw [e, hpt] at hk
      rw [e, tN]; exact hW0 k hk
    · rw [hpj j (by omega)] at hk
      have hp := hplt j (by omega)
      rw [hlow j k (by omega) e (by omega), hXlow j (by omega)]
      exact h.lead j k (by omega) hk
  · rw [hpl] at hq
    rw [hlen] at hqr
    by_cases e : col = c
    · rw [e]; exact hc0 q hqr (by omega)
    · rw [hlow q col hqr (by omega) (by omega)]
      exact hXhi q col (by omega) hqr (by omega)
theorem red_RI (hG : F.Good) {rows0 : List (List Int)} (hM : F.Mat n rows0) (c : Nat) : ∃ pv, RI F n rows0 c (red F rows0 c).1 (red F rows0 c).2 pv := by
  induction c with
  | zero => exact ⟨[], RI.start hG.ok hM⟩
  | succ c ih =>
    obtain ⟨pv, h⟩ := ih
    have hpl : (red F rows0 c).2.length = pv.length := by rw [h.cast, List.length_map]
    rw [red, stepR]
    have skip : (∀ i, pv.length ≤ i → i < (red F rows0 c).1.length → nth (nthL (red F rows0 c).1 i) c = 0) → RI F n rows0 (c + 1) (red F rows0 c).1 (red F rows0 c).2 pv := fun hz =>
      ⟨h.mat, h.len, h.cast, h.ple, fun j hj => Nat.lt_succ_of_lt (h.lt j hj), h.mono, h.one, h.lead, fun i col hi hir hcol => by
        by_cases e : col = c
        · rw [e]; exact hz i hi hir
        · exact h.rest i col hi hir (by omega), h.into, h.back⟩
    by_cases hc : (red F rows0 c).2.length < (red F rows0 c).1.length ∧ pivAt (red F rows0 c).1 c (red F rows0 c).2.length < (red F rows0 c).1.length
    · rw [if_pos hc]
      obtain ⟨h1, h2⟩ := hc
      rw [hpl] at h1 h2 ⊢
      rcases pivAt_cases (red F rows0 c).1 c pv.length with ⟨e, _⟩ | ⟨e1, e2, e3⟩
      · omega
      · exact ⟨pv ++ [c], h.go hG h1 e1 e2 e3⟩
    · rw [if_neg hc]
      refine ⟨pv, skip fun i hi hir => ?_⟩
      rw [hpl] at hc
      rcases pivAt_cases (red F rows0 c).1 c pv.length with ⟨_, e⟩ | ⟨_, e2, _⟩
      · exact e i hi hir
      · exact absurd ⟨by omega, e2⟩ hc
/-- The echelon form is one, and spans what the rows span. -/
theorem form_ech (hG : F.Good) {rows0 : List (List Int)} (hM : F.Mat n rows0) : ∃ pv : List Nat, (red F rows0 n).2 = pv.map (fun (x : Nat) => (x : Int)) ∧ Ech F n (form F rows0 n) pv ∧ ∀ v, Sp F (form F rows0 n) v ↔ Sp F rows0 v := by
  have ok := hG.ok
  obtain ⟨pv, h⟩ := red_RI hG hM n
  have hpl : (red F rows0 n).2.length = pv.length := by rw [h.cast, List.length_map]
  have hfl : (form F rows0 n).length = pv.length := by rw [form_len, hpl]
  have hfm := form_Mat ok hM
  have hfn : ∀ j, j < pv.length → nthL (form F rows0 n) j = nthL (red F rows0 n).1 j := fun j hj => by rw [form, hpl]; exact nthL_take hj
  refine ⟨pv, h.cast, ⟨hfm, hfl.symm, h.lt, h.mono, fun i j hi hj => by rw [hfn i hi]; exact h.one i j (by have := h.ple; omega) hj, fun j i hj hi => by rw [hfn j hj]; exact h.lead j i hj hi⟩, fun v => ⟨fun hv => ?_, fun hv => ?_⟩⟩
  · exact Sp.of ok (fun j hj => by rw [hfl] at hj; rw [hfn j hj]; exact h.back j (by have := h.ple; omega)) hv
  · refine Sp.of ok (B := (red F rows0 n).1) (fun j hj => ?_) (Sp.of ok h.into hv)
    by_cases e : j < pv.length
    · rw [← hfn j e]; exact Sp.row ok hfm (by rw [hfl]; exact e)
    · have : nth (nthL (red F rows0 n).1 j) = fun _ => 0 := by
        funext k
        rcases Nat.lt_or_ge k n with hk | hk
        · exact h.rest j k (by omega) hj hk
        · exact nth_big (by rw [(Mat_nth h.mat hj).1]; exact hk)
      rw [this]; exact .zero
end
end Go.Proofs.Ytgmgpcaahanmiaa

/-
  Plain mathematics: when a vector lies in the span of rows: by ranks, and by what is left of it.
-/
namespace Go.Proofs.Ytgmgpcaahanmiaa
open Go.RowKit

section
variable {F : FD} {n : Nat} {rows : List (List Int)}
theorem Mat_snoc {v : List Int} (hM : F.Mat n rows) (hv : v.length = n ∧ ∀ x ∈ v, 0 ≤ x ∧ x < F.n) : F.Mat n (rows ++ [v]) := by
  intro xs hx
  rcases List.mem_append.1 hx with h | h
  · exact hM xs h
  · rw [List.mem_singleton.1 h]; exact hv
theorem nthL_snoc_lt {v : List Int} {j : Nat} (h : j < rows.length) : nthL (rows ++ [v]) j = nthL rows j := by
  rw [nthL, nthL, List.getD_eq_getElem?_getD, List.getElem?_append_left h, ← List.getD_eq_getElem?_getD]
theorem nthL_snoc_eq {v : List Int} : nthL (rows ++ [v]) rows.length = v := by simp [nthL]
/-- The rank does not grow: the vector is in the span. -/
theorem rank_iff (hG : F.Good) {v : List Int} (hM : F.Mat n rows) (hv : v.length = n ∧ ∀ x ∈ v, 0 ≤ x ∧ x < F.n) : (form F (rows ++ [v]) n).length = (form F rows n).length ↔ Sp F rows (nth v) := by
  have ok := hG.ok
  have hMs := Mat_snoc hM hv
  obtain ⟨pa, _, eA, sA⟩ := form_ech hG hM
  obtain ⟨pb, _, eB, sB⟩ := form_ech hG hMs
  have hsub : ∀ u, Sp F rows u → Sp F (rows ++ [v]) u := fun u hu => Sp.of ok (fun j hj => by
    have := Sp.row ok hMs (j := j) (by simp; omega)
    rwa [nthL_snoc_lt hj] at this) hu
  constructor
  · intro hl
    rw [← sA]
    refine eA.all_of_len ok eB (fun u hu => (sB u).2 (hsub u ((sA u).1 hu))) (by omega) ((sB _).2 ?_)
    have := Sp.row ok hMs (j := rows.length) (by simp)
    rwa [nthL_snoc_eq] at this
  · intro hs
    have hback : ∀ u, Sp F (rows ++ [v]) u → Sp F rows u := fun u hu => Sp.of ok (fun j hj => by
      by_cases e : j < rows.length
      · rw [nthL_snoc_lt e]; exact Sp.row ok hM e
      · have : j = rows.length := by simp at hj; omega
        rw [this, nthL_snoc_eq]; exact hs) hu
    have := eA.unique ok eB (fun u => by rw [sA, sB]; exact ⟨hsub u, hback u⟩)
    rw [this]
/-- What is left of a vector when k rows have been taken out. -/
def restTo (F : FD) (rows : List (List Int)) (piv : List Int) (v : List Int) : Nat → List Int
  | 0 => v
  | k + 1 => addTo F (restTo F rows piv v k) (nthL rows k) (F.sub 0 (nth (restTo F rows piv v k) (nth piv k).toNat)) v.length
theorem restTo_len (F : FD) (rows : List (List Int)) (piv v : List Int) (k : Nat) : (restTo F rows piv v k).length = v.length := by
  induction k with
  | zero => rfl
  | succ k ih => rw [restTo, addTo_len, ih]
theorem restTo_el (ok : F.Ok) (piv : List Int) {v : List Int} (hv : ∀ x ∈ v, 0 ≤ x ∧ x < F.n) (k : Nat) : ∀ x ∈ restTo F rows piv v k, 0 ≤ x ∧ x < F.n := by
  cases k with
  | zero => exact hv
  | succ k =>
    intro x hx
    obtain ⟨i, hi, rfl⟩ := List.getElem_of_mem hx
    have hl := restTo_len F rows piv v (k + 1)
    have hi' : i < v.length := by omega
    have := addTo_nth F (restTo F rows piv v k) (nthL rows k) (F.sub 0 (nth (restTo F rows piv v k) (nth piv k).toNat)) v.length (by rw [restTo_len]; exact Nat.le_refl _) i
    rw [if_pos hi'] at this
    have e : nth (restTo F rows piv v (k + 1)) i = (restTo F rows piv v (k + 1))[i] := nth_lt hi
    rw [← e, restTo, this]
    exact (el_n ok).1 (lin_el ok _ _ _)
theorem restTo_nth (hG : F.Good) {pv : List Nat} (h : Ech F n rows pv) {v : List Int} (hv : v.length = n ∧ ∀ x ∈ v, 0 ≤ x ∧ x < F.n) (k : Nat) (hk : k ≤ rows.length) :
    ∀ i, i < n → nth (restTo F rows (pv.map fun (x : Nat) => (x : Int)) v k) i = F.sub (nth v i) (F.sum (fun j => F.mul (nth v (pv.getD j 0)) (nth (nthL rows j) i)) k) := by
  have ok := hG.ok
  have hve : ∀ i, F.el (nth v i) := fun i => by
    rcases Nat.lt_or_ge i v.length with hh | hh
    · exact (el_n ok).2 (hv.2 _ (nth_mem hh))
    · rw [nth_big hh]; exact zero_el ok
  induction k with
  | zero => intro i _; show nth v i = F.sub (nth v i) 0; rw [sub_zero_el ok (hve i)]
  | succ k ih =>
    intro i hi
    have ih := ih (by omega)
    have hkp : k < pv.length := by rw [h.len]; omega
    rw [restTo, addTo_nth F _ _ _ _ (by rw [restTo_len]; exact Nat.le_refl _), if_pos (by omega), ih i hi]
    have ep : (nth (pv.map fun (x : Nat) => (x : Int)) k).toNat = pv.getD k 0 := by
      rw [nth_lt (by rw [List.length_map]; exact hkp), List.getElem_map, List.getD_eq_getElem?_getD, List.getElem?_eq_getElem hkp]
      rfl
    have hz : F.sum (fun j => F.mul (nth v (pv.getD j 0)) (nth (nthL rows j) (pv.getD k 0))) k = 0 := sum_zero ok (fun j hj => by rw [h.one j k (by omega) hkp, if_neg (by omega), mul_zero_all ok])
    rw [ep, ih _ (h.lt k hkp), hz, sub_zero_el ok (hve (pv.getD k 0))]
    have hneg : F.add (F.sub (nth v i) (F.sum (fun j => F.mul (nth v (pv.getD j 0)) (nth (nthL rows j) i)) k)) (F.mul (F.sub 0 (nth v (pv.getD k 0))) (nth (nthL rows k) i)) = F.sub (F.sub (nth v i) (F.sum (fun j => F.mul (nth v (pv.getD j 0)) (nth (nthL rows j) i)) k)) (F.mul (nth v (pv.getD k 0)) (nth (nthL rows k) i)) :=
      add_neg_mul (by have := ok.p2; omega) ok.len _ _ _
    refine hneg.trans ?_
    rw [FD.sum]
    exact lin_eq ok (lin_el ok _ _ _) (lin_el ok _ _ _) (fun z hz => D_lin2 ok hz (D_lin ok _ _ _ hz) (Cg.refl _ _)) (fun z hz => D_lin2 ok hz (Cg.refl _ _) (D_lin ok _ _ _ hz)) fun z => by omega
theorem rest_iff (hG : F.Good) {pv : List Nat} (h : Ech F n rows pv) {v : List Int} (hv : v.length = n ∧ ∀ x ∈ v, 0 ≤ x ∧ x < F.n) : (∀ x ∈ restTo F rows (pv.map fun (x : Nat) => (x : Int)) v rows.length, x = 0) ↔ Sp F rows (nth v) := by
  have ok := hG.ok
  have hl := restTo_len F rows (pv.map fun (x : Nat) => (x : Int)) v rows.length
  have hn := restTo_nth hG h hv rows.length (Nat.le_refl _)
  have hve : ∀ i, F.el (nth v i) := fun i => by
    rcases Nat.lt_or_ge i v.length with hh | hh
    · exact (el_n ok).2 (hv.2 _ (nth_mem hh))
    · rw [nth_big hh]; exact zero_el ok
  constructor
  · intro h0
    have hlin : ∀ k, k ≤ rows.length → Sp F rows (fun i => F.sum (fun j => F.mul (nth v (pv.getD j 0)) (nth (nthL rows j) i)) k) := by
      intro k
      induction k with
      | zero => intro _; exact .zero
      | succ k ih => intro hk; exact (ih (by omega)).step (by omega) (hve _)
    have e : nth v = fun i => F.sum (fun j => F.mul (nth v (pv.getD j 0)) (nth (nthL rows j) i)) rows.length := by
      funext i
      rcases Nat.lt_or_ge i n with hi | hi
      · have := hn i hi
        rw [nth_lt (by rw [hl, hv.1]; exact hi), h0 _ (List.getElem_mem _)] at this
        exact eq_of_sub ok (hve i) (sum_el ok _ _) this.symm
      · rw [nth_big (by rw [hv.1]; exact hi), (hlin rows.length (Nat.le_refl _)).big ok h.mat hi]
    rw [e]
    exact hlin rows.length (Nat.le_refl _)
  · intro hs x hx
    obtain ⟨i, hi, rfl⟩ := List.getElem_of_mem hx
    have hi' : i < n := by rw [hl, hv.1] at hi; exact hi
    have := hn i hi'
    rw [nth_lt hi, ← h.coord ok hs i, sub_self' ok] at this
    exact this
/-- Rows that are their own echelon form. -/
theorem form_fix (hG : F.Good) {pv : List Nat} (h : Ech F n rows pv) : form F rows n = rows ∧ (red F rows n).2 = pv.map fun (x : Nat) => (x : Int) := by
  have ok := hG.ok
  obtain ⟨pa, e1, eA, sA⟩ := form_ech hG h.mat
  have e := eA.unique ok h sA
  refine ⟨e, ?_⟩
  rw [e1]
  rw [e] at eA
  rw [eA.piv_eq ok h (fun _ => Iff.rfl)]
end
end Go.Proofs.Ytgmgpcaahanmiaa

