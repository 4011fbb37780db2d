/-
  Plain mathematics: the correction of a vector by its syndrome; each vector other than zero is one multiple of one check column.
-/
import Derived.BigQuiet
import Derived.Deep.DeepCutAuto
import Derived.Deep.DeepMust
import Derived.Deep.DrawnRows
import Derived.Deep.Draws
import Derived.Deep.OwnRows
import Derived.Deep.QuietTactic
import Derived.Deep.RegionHeld3
import Derived.Laws.Rows
import Derived.Lib.Hide
import Derived.Maps.AppendAt
import Derived.StillTailTactics
import Derived.Test.YtgmgpcaahanmiaaProg
import Derived.WalkKit
import Derived.WalkLawsBesides
import Derived.WalkSpells
import Derived.Test.YtgmgpcaahanmiaaZ5
import Derived.Test.YtgmgpcaahanmiaaZ17
import Derived.Test.YtgmgpcaahanmiaaZ58
import Derived.Test.YtgmgpcaahanmiaaZ67
set_option linter.unusedVariables false
set_option linter.unusedSimpArgs false
namespace Go.Proofs.Ytgmgpcaahanmiaa
open Go.RowKit

theorem cmpI_zero {x y : Int} : cmpI x y = 0 ↔ x = y := by
  unfold cmpI
  split
  · omega
  · split <;> omega
theorem cmpL_snoc : ∀ {xs ys : List Int}, xs.length = ys.length → ∀ (x y : Int), cmpL (xs ++ [x]) (ys ++ [y]) = if cmpL xs ys = 0 then cmpI x y else cmpL xs ys
  | [], [], _, x, y => by
    show (if cmpI x y = 0 then (0 : Int) else cmpI x y) = if (0 : Int) = 0 then cmpI x y else 0
    rw [if_pos rfl]
    split
    · next h => rw [h]
    · rfl
  | a :: xs, b :: ys, h, x, y => by
    have ih := cmpL_snoc (show xs.length = ys.length by simpa using h) x y
    show (if cmpI a b = 0 then cmpL (xs ++ [x]) (ys ++ [y]) else cmpI a b) = if (if cmpI a b = 0 then cmpL xs ys else cmpI a b) = 0 then cmpI x y else (if cmpI a b = 0 then cmpL xs ys else cmpI a b)
    by_cases h0 : cmpI a b = 0
    · rw [if_pos h0, if_pos h0, ih]
    · rw [if_neg h0, if_neg h0, if_neg h0]
  | [], _ :: _, h, _, _ => by simp at h
  | _ :: _, [], h, _, _ => by simp at h
theorem cmpL_refl (xs : List Int) : cmpL xs xs = 0 := by
  induction xs with
  | nil => rfl
  | cons x xs ih =>
    show (if cmpI x x = 0 then cmpL xs xs else cmpI x x) = 0
    rw [if_pos (cmpI_zero.2 rfl), ih]
/-- Numbers of the same many digits are compared as their digits are. -/
theorem cmpL_hig {q : Nat} (hq : 0 < q) : ∀ (k : Nat) {m n : Nat}, m < q ^ k → n < q ^ k → cmpL (hig m q k) (hig n q k) = cmpI m n := by
  intro k
  induction k with
  | zero =>
    intro m n hm hn
    have e1 : m = 0 := by simpa using hm
    have e2 : n = 0 := by simpa using hn
    subst e1
    subst e2
    exact cmpL_refl _
  | succ k ih =>
    intro m n hm hn
    have dm : m / q < q ^ k := Nat.div_lt_of_lt_mul (by rw [Nat.mul_comm]; exact hm)
    have dn : n / q < q ^ k := Nat.div_lt_of_lt_mul (by rw [Nat.mul_comm]; exact hn)
    have rm := Nat.mod_lt m hq
    have rn := Nat.mod_lt n hq
    have em : m = m / q * q + m % q := by rw [Nat.mul_comm]; exact (Nat.div_add_mod m q).symm
    have en : n = n / q * q + n % q := by rw [Nat.mul_comm]; exact (Nat.div_add_mod n q).symm
    have e1 : hig m q (k + 1) = hig (m / q) q k ++ [((m % q : Nat) : Int)] := by
      have := hig_succ (m / q) (m % q) rm k
      rwa [← em] at this
    have e2 : hig n q (k + 1) = hig (n / q) q k ++ [((n % q : Nat) : Int)] := by
      have := hig_succ (n / q) (n % q) rn k
      rwa [← en] at this
    rw [e1, e2, cmpL_snoc (by rw [hig_len, hig_len]), ih dm dn]
    have key : ∀ a b : Nat, a < b → a * q + q ≤ b * q := fun a b h => by
      have := Nat.mul_le_mul_right q (show a + 1 ≤ b from h)
      rwa [Nat.succ_mul] at this
    rcases Nat.lt_trichotomy (m / q) (n / q) with h | h | h
    · have h3 := key _ _ h
      rw [if_neg (by unfold cmpI; rw [if_pos (by omega)]; omega)]
      unfold cmpI
      rw [if_pos (by omega), if_pos (by omega)]
    · rw [if_pos (cmpI_zero.2 (by rw [h]))]
      rw [h] at em
      unfold cmpI
      by_cases h1 : m % q < n % q
      · rw [if_pos (by omega), if_pos (by omega)]
      · by_cases h2 : n % q < m % q
        · rw [if_neg (by omega), if_pos (by omega), if_neg (by omega), if_pos (by omega)]
        · rw [if_neg (by omega), if_neg (by omega), if_neg (by omega), if_neg (by omega)]
    · have h3 := key _ _ h
      rw [if_neg (by unfold cmpI; rw [if_neg (by omega), if_pos (by omega)]; omega)]
      unfold cmpI
      rw [if_neg (by omega), if_pos (by omega), if_neg (by omega), if_pos (by omega)]
/-- Each vector is the digits of a number. -/
theorem hig_of {q k : Nat} (hq : 0 < q) {v : List Int} (hl : v.length = k) (hv : ∀ x ∈ v, 0 ≤ x ∧ x < q) : ∃ t : Nat, t < q ^ k ∧ v = hig t q k := by
  have hr : InR q v.reverse := fun x hx => hv x (List.mem_reverse.1 hx)
  have hb := num_bound (p := q) (by omega) hr
  rw [List.length_reverse, hl] at hb
  obtain ⟨t, ht⟩ := Int.eq_ofNat_of_zero_le hb.1
  refine ⟨t, ?_, ?_⟩
  · have h2 := hb.2
    rw [ht, ← Int.natCast_pow] at h2
    exact Int.ofNat_lt.1 h2
  · rw [hig, ← ht, dig_num (by omega) hr (by rw [List.length_reverse, hl]), List.reverse_reverse]
/-- The columns ahead of a number, it, and those behind it. -/
theorem colsUp_pre (q r : Nat) {N : Nat} : ∀ M, N ≤ M → ∃ L, colsUp q r M = colsUp q r N ++ L ∧ ∀ c ∈ L, ∃ j, N ≤ j ∧ j < M ∧ c = hig j q r := by
  intro M
  induction M with
  | zero => intro h; exact ⟨[], by rw [Nat.le_zero.1 h]; simp, fun c hc => absurd hc List.not_mem_nil⟩
  | succ M ih =>
    intro h
    rcases Nat.lt_or_ge M N with h1 | h1
    · rw [show N = M + 1 by omega]
      exact ⟨[], by simp, fun c hc => absurd hc List.not_mem_nil⟩
    · obtain ⟨L, e, hL⟩ := ih h1
      by_cases hl : lead (hig M q r) = 1
      · refine ⟨L ++ [hig M q r], by rw [colsUp_yes hl, e, List.append_assoc], fun c hc => ?_⟩
        rcases List.mem_append.1 hc with h2 | h2
        · obtain ⟨j, h3, h4, h5⟩ := hL c h2
          exact ⟨j, h3, by omega, h5⟩
        · exact ⟨M, h1, by omega, List.mem_singleton.1 h2⟩
      · exact ⟨L, by rw [colsUp_no hl, e], fun c hc => by
          obtain ⟨j, h3, h4, h5⟩ := hL c hc
          exact ⟨j, h3, by omega, h5⟩⟩
/-- Where a column stands among the check columns. -/
theorem colsUp_place {q r t : Nat} (hq : 2 ≤ q) (ht : t < q ^ r) (hl : lead (hig t q r) = 1) : ∃ p, p < (colsUp q r (q ^ r)).length ∧ nthL (colsUp q r (q ^ r)) p = hig t q r ∧
    (∀ i, i < p → cmpL (nthL (colsUp q r (q ^ r)) i) (hig t q r) < 0) ∧ (∀ i, p < i → i < (colsUp q r (q ^ r)).length → 0 < cmpL (nthL (colsUp q r (q ^ r)) i) (hig t q r)) := by
  obtain ⟨L, e, hL⟩ := colsUp_pre q r (N := t + 1) (q ^ r) (by omega)
  rw [colsUp_yes hl, List.append_assoc] at e
  have hlen : (colsUp q r (q ^ r)).length = (colsUp q r t).length + (1 + L.length) := by rw [e]; simp; omega
  have hn : ∀ (l : List (List Int)) (i : Nat), nthL l i = l[i]?.getD [] := fun l i => by simp [nthL]
  refine ⟨(colsUp q r t).length, by omega, ?_, fun i hi => ?_, fun i hi hil => ?_⟩
  · rw [hn, e, List.getElem?_append_right (Nat.le_refl _), Nat.sub_self]
    rfl
  · have h1 : nthL (colsUp q r (q ^ r)) i = nthL (colsUp q r t) i := by rw [hn, hn, e, List.getElem?_append_left hi]
    obtain ⟨j, hj, h2, _⟩ := colsUp_mem (nthL_mem hi)
    rw [h1, h2, cmpL_hig (by omega) r (by omega) ht]
    unfold cmpI
    rw [if_pos (by omega)]
    omega
  · obtain ⟨d, rfl⟩ : ∃ d, i = (colsUp q r t).length + 1 + d := ⟨i - (colsUp q r t).length - 1, by omega⟩
    have hd : d < L.length := by omega
    have h1 : nthL (colsUp q r (q ^ r)) ((colsUp q r t).length + 1 + d) = nthL L d := by
      rw [hn, hn, e, List.getElem?_append_right (by omega), show (colsUp q r t).length + 1 + d - (colsUp q r t).length = d + 1 by omega]
      rfl
    obtain ⟨j, hj, hj2, h2⟩ := hL _ (nthL_mem hd)
    rw [h1, h2, cmpL_hig (by omega) r (by omega) ht]
    unfold cmpI
    rw [if_neg (by omega), if_pos (by omega)]
    omega
theorem lead_scale {F : FD} (hG : F.Good) {x : Int} (hx : 1 ≤ x) (hx2 : x < F.n) : ∀ {v : List Int}, (∀ y ∈ v, 0 ≤ y ∧ y < F.n) → lead (scale F x v) = F.mul x (lead v) := by
  have ok := hG.ok
  intro v
  induction v with
  | nil => intro _; show (0 : Int) = F.mul x 0; rw [mul_zero_all ok]
  | cons y ys ih =>
    intro hv
    have ih := ih fun z hz => hv z (List.mem_cons_of_mem _ hz)
    have hy := hv y List.mem_cons_self
    show (if F.mul x y = 0 then lead (scale F x ys) else F.mul x y) = F.mul x (if y = 0 then lead ys else y)
    by_cases h0 : y = 0
    · rw [if_pos h0, h0, mul_zero_all ok, if_pos rfl, ih]
    · have h1 : F.mul x y ≠ 0 := fun e => by
        rcases no_div hG ((el_n ok).2 ⟨by omega, hx2⟩) ((el_n ok).2 hy) e with h | h
        · omega
        · exact h0 h
      rw [if_neg h0, if_neg h1]
theorem scale_scale {F : FD} (ok : F.Ok) (a b : Int) (v : List Int) : scale F a (scale F b v) = scale F (F.mul a b) v := by
  simp only [scale, List.map_map]
  exact List.map_congr_left fun x _ => (mul_assoc_all ok a b x).symm
theorem scale_one {F : FD} (ok : F.Ok) {v : List Int} (hv : ∀ y ∈ v, 0 ≤ y ∧ y < F.n) : scale F 1 v = v := by
  rw [scale, show v = v.map id by simp, List.map_map]
  exact List.map_congr_left fun x hx => one_mul' ok ((el_n ok).2 (hv x hx))
theorem scale_bd {F : FD} (ok : F.Ok) (c : Int) (v : List Int) : ∀ y ∈ scale F c v, 0 ≤ y ∧ y < F.n := fun y hy => by
  obtain ⟨x, _, rfl⟩ := List.mem_map.1 hy
  exact mul_bd ok _ _
/-- The place of the column of which a vector is a multiple. -/
theorem cor_place {F : FD} (hG : F.Good) {r : Nat} {S : List Int} (hl : S.length = r) (hS : ∀ y ∈ S, 0 ≤ y ∧ y < F.n) (h0 : lead S ≠ 0) :
    ∃ p, p < (colsUp F.n r (F.n ^ r)).length ∧ (∀ i, i < p → cmpL (nthL (colsUp F.n r (F.n ^ r)) i) (scale F (F.inv (lead S)) S) < 0) ∧
      (∀ i, p ≤ i → i < (colsUp F.n r (F.n ^ r)).length → ¬ cmpL (nthL (colsUp F.n r (F.n ^ r)) i) (scale F (F.inv (lead S)) S) < 0) ∧
      (∀ i, i < (colsUp F.n r (F.n ^ r)).length → ∀ x : Int, 1 ≤ x → x < F.n → (scale F x (nthL (colsUp F.n r (F.n ^ r)) i) = S ↔ i = p ∧ x = lead S)) := by
  have ok := hG.ok
  obtain ⟨n2, n64⟩ := ok.n_bd
  have hb := lead_bd (q := F.n) (by omega) hS
  obtain ⟨i1, i2, i3, _⟩ := inv_spec hG (a := lead S) (by omega) hb.2
  have hsl := lead_scale hG i2 i3 hS
  rw [mul_comm' ok, i1] at hsl
  obtain ⟨t, ht, he⟩ := hig_of (q := F.n) (k := r) (by omega) (by rw [scale_len]; exact hl) (scale_bd ok (F.inv (lead S)) S)
  obtain ⟨p, hp, hpe, hlt, hgt⟩ := colsUp_place (by omega) ht (by rw [← he]; exact hsl)
  rw [← he] at hpe hlt hgt
  have hback : scale F (lead S) (scale F (F.inv (lead S)) S) = S := by rw [scale_scale ok, i1, scale_one ok hS]
  refine ⟨p, hp, hlt, fun i hi hil => ?_, fun i hi x hx hx2 => ⟨fun e => ?_, fun e => ?_⟩⟩
  · rcases Nat.lt_or_eq_of_le hi with h | h
    · have := hgt i h hil; omega
    · rw [← h, hpe, cmpL_refl]; omega
  · have hc := colsUp_mem (nthL_mem hi)
    obtain ⟨j, _, hj, hl1⟩ := hc
    have hcb : ∀ y ∈ nthL (colsUp F.n r (F.n ^ r)) i, 0 ≤ y ∧ y < F.n := by rw [hj]; exact hig_el j (by omega) r
    have h1 := lead_scale hG hx hx2 hcb
    rw [e, hl1, mul_comm' ok, one_mul' ok ((el_n ok).2 ⟨by omega, hx2⟩)] at h1
    refine ⟨?_, h1.symm⟩
    have h2 : scale F (F.inv (lead S)) S = nthL (colsUp F.n r (F.n ^ r)) i := by
      rw [h1, ← e, scale_scale ok]
      rw [h1] at i1
      rw [mul_comm' ok, i1, scale_one ok hcb]
    rcases Nat.lt_trichotomy i p with h | h | h
    · have := hlt i h; rw [h2, cmpL_refl] at this; omega
    · exact h
    · have := hgt i h hi; rw [h2, cmpL_refl] at this; omega
  · rw [e.1, e.2, hpe, hback]
theorem cor_none {F : FD} (hG : F.Good) {r : Nat} {S : List Int} (h0 : lead S = 0) {i : Nat} (hi : i < (colsUp F.n r (F.n ^ r)).length) {x : Int} (hx : 1 ≤ x) (hx2 : x < F.n) : scale F x (nthL (colsUp F.n r (F.n ^ r)) i) ≠ S := fun e => by
  have ok := hG.ok
  obtain ⟨n2, n64⟩ := ok.n_bd
  obtain ⟨j, _, hj, hl1⟩ := colsUp_mem (nthL_mem hi)
  have hcb : ∀ y ∈ nthL (colsUp F.n r (F.n ^ r)) i, 0 ≤ y ∧ y < F.n := by rw [hj]; exact hig_el j (by omega) r
  have h1 := lead_scale hG hx hx2 hcb
  rw [e, hl1, mul_comm' ok, one_mul' ok ((el_n ok).2 ⟨by omega, hx2⟩)] at h1
  omega
end Go.Proofs.Ytgmgpcaahanmiaa

