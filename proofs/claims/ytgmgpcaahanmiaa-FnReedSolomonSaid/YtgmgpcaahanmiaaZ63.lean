/-
  Plain mathematics: the words of a valid code are its span, each once; weights are counts; the distance is the least weight.
-/
import Derived.BigQuiet
import Derived.BigRegion
import Derived.ChangeOld
import Derived.Deep.DeepCutAuto
import Derived.Deep.DeepMust
import Derived.Deep.DrawnRows
import Derived.Deep.Draws
import Derived.Deep.OwnRows
import Derived.Deep.QuietTactic
import Derived.Deep.RegionHeld3
import Derived.Deep.Slices
import Derived.IntWalk
import Derived.Laws.Rows
import Derived.Lib.Hide
import Derived.Maps.AppendAt
import Derived.OpenShut
import Derived.OwnWalk
import Derived.ProofKit
import Derived.ShutString
import Derived.StillTailTactics
import Derived.Test.YtgmgpcaahanmiaaProg
import Derived.Test.YtgmgpcaahanmiaaRows
import Derived.WalkKit
import Derived.WalkLawsBesides
import Derived.WalkSpells
import Derived.Test.YtgmgpcaahanmiaaZ8
import Derived.Test.YtgmgpcaahanmiaaZ15
import Derived.Test.YtgmgpcaahanmiaaZ19
import Derived.Test.YtgmgpcaahanmiaaZ24
import Derived.Test.YtgmgpcaahanmiaaZ28
import Derived.Test.YtgmgpcaahanmiaaZ29
import Derived.Test.YtgmgpcaahanmiaaZ30
import Derived.Test.YtgmgpcaahanmiaaZ31
import Derived.Test.YtgmgpcaahanmiaaZ34
import Derived.Test.YtgmgpcaahanmiaaZ44
set_option linter.unusedVariables false
set_option linter.unusedSimpArgs false
namespace Go.Proofs.Ytgmgpcaahanmiaa
open Go.RowKit

section
variable {F : FD} {n : Nat} {m : List (List Int)}
theorem wtTo_zero {xs : List Int} {k : Nat} (h : ∀ i, i < k → nth xs i = 0) : wtTo xs k = 0 := by
  induction k with
  | zero => rfl
  | succ k ih => rw [wtTo, if_pos (h k (by omega)), ih fun i hi => h i (by omega)]
theorem wtTo_cong {xs ys : List Int} {k : Nat} (h : ∀ i, i < k → (nth xs i = 0 ↔ nth ys i = 0)) : wtTo xs k = wtTo ys k := by
  induction k with
  | zero => rfl
  | succ k ih =>
    rw [wtTo, wtTo, ih fun i hi => h i (by omega)]
    have := h k (by omega)
    by_cases e : nth xs k = 0
    · rw [if_pos e, if_pos (this.1 e)]
    · rw [if_neg e, if_neg fun h2 => e (this.2 h2)]
/-- The weight of what a function has at the first k places. -/
def wf (v : Nat → Int) (k : Nat) : Nat := (List.range k).countP fun i => v i != 0
theorem wtTo_wf (xs : List Int) (k : Nat) : wtTo xs k = wf (nth xs) k := by
  induction k with
  | zero => rfl
  | succ k ih =>
    rw [wtTo, ih, wf, wf, List.range_succ, List.countP_append]
    by_cases e : nth xs k = 0
    · rw [if_pos e]; simp [e]
    · rw [if_neg e]; simp [e]
theorem wt_wf {xs : List Int} {k : Nat} (h : xs.length = k) : wt xs = wf (nth xs) k := by rw [wt, wtTo_wf, h]
theorem wf_le (v : Nat → Int) (k : Nat) : wf v k ≤ k := by
  have := List.countP_le_length (p := fun i => v i != 0) (l := List.range k)
  rwa [List.length_range] at this
/-- Places that are zero are not counted. -/
theorem wf_zeros (v : Nat → Int) (k : Nat) {Z : List Nat} (hn : Z.Nodup) (hz : ∀ i ∈ Z, i < k ∧ v i = 0) : wf v k + Z.length ≤ k := by
  have h1 : Z.length ≤ ((List.range k).filter fun i => ! (v i != 0)).length := nodup_len hn fun x hx => by
    have := hz x hx
    exact List.mem_filter.2 ⟨List.mem_range.2 this.1, by simp [this.2]⟩
  have h2 := List.length_eq_countP_add_countP (fun i => v i != 0) (l := List.range k)
  rw [List.length_range] at h2
  rw [← List.countP_eq_length_filter] at h1
  have h3 : (List.range k).countP (fun i => ! (v i != 0)) = (List.range k).countP (fun a => decide ¬(v a != 0) = true) := List.countP_congr fun x _ => by simp
  rw [wf]
  omega
theorem wf_pos {v : Nat → Int} {k : Nat} (h : 1 ≤ wf v k) : ∃ i, i < k ∧ v i ≠ 0 := by
  obtain ⟨i, hi, hv⟩ := List.countP_pos_iff.1 (show 0 < (List.range k).countP (fun i => v i != 0) from h)
  exact ⟨i, List.mem_range.1 hi, by simpa using hv⟩
theorem wf_one {v : Nat → Int} {k i : Nat} (hi : i < k) (h : v i ≠ 0) : 1 ≤ wf v k := List.countP_pos_iff.2 ⟨i, List.mem_range.2 hi, by simpa using h⟩

theorem GC.ech (h : GC F n m) : ∃ pv, Ech F n m pv := by
  obtain ⟨pv, _, hE, _⟩ := form_ech h.good h.mat
  rw [h.fix] at hE
  exact ⟨pv, hE⟩
theorem Mat.el_all {A : List (List Int)} (ok : F.Ok) (hM : F.Mat n A) (v : List Int) (hv : v ∈ A) (i : Nat) : F.el (nth v i) := by
  rcases Nat.lt_or_ge i v.length with h | h
  · exact (el_n ok).2 ((hM v hv).2 _ (nth_mem h))
  · rw [nth_big h]; exact zero_el ok
theorem encTo_sp (ok : F.Ok) {A : List (List Int)} (hM : F.Mat n A) {msg : List Int} (hm : ∀ c ∈ msg, 0 ≤ c ∧ c < F.n) {k : Nat} (hk : k ≤ A.length) : Sp F A (nth (encTo F n A msg k)) := by
  induction k with
  | zero =>
    rw [encTo, show nth (zeros n) = fun _ => 0 from by funext i; exact zeros_nth n i]
    exact .zero
  | succ k ih =>
    have hc : F.el (nth msg k) := by
      rcases Nat.lt_or_ge k msg.length with hh | hh
      · exact (el_n ok).2 (hm _ (nth_mem hh))
      · rw [nth_big hh]; exact zero_el ok
    have h := (ih (by omega)).step (j := k) (by omega) hc
    have e : (fun i => F.add (nth (encTo F n A msg k) i) (F.mul (nth msg k) (nth (nthL A k) i))) = nth (encTo F n A msg (k + 1)) := by
      funext i
      rcases Nat.lt_or_ge i n with hi | hi
      · rw [encTo, addTo_nth F _ _ _ _ (by rw [encTo_len]; exact Nat.le_refl _), if_pos hi]
      · rw [nth_big (xs := encTo F n A msg (k + 1)) (by rw [encTo_len]; exact hi), nth_big (xs := encTo F n A msg k) (by rw [encTo_len]; exact hi), nth_big (xs := nthL A k) (by rw [(Mat_nth hM (i := k) (by omega)).1]; exact hi), mul_zero_all ok, add_zero' ok (zero_el ok)]
    rw [e] at h
    exact h
/-- A vector of the span is the word of its places at the pivots. -/
theorem Ech.enc (ok : F.Ok) {pv : List Nat} (hE : Ech F n m pv) {v : List Int} (hl : v.length = n) (hs : Sp F m (nth v)) : v = encTo F n m (pv.map (nth v)) m.length := by
  refine eq_of_nth (by rw [encTo_len, hl]) fun i hi => ?_
  rw [hl] at hi
  rw [encTo_sum ok n m _ _ hi, hE.coord ok hs i]
  refine sum_congr fun j hj => ?_
  have hj' : j < pv.length := by rw [hE.len]; exact hj
  rw [nth_lt (xs := pv.map (nth v)) (by rw [List.length_map]; exact hj'), List.getElem_map, List.getD_eq_getElem?_getD, List.getElem?_eq_getElem hj']
  rfl
theorem hig_all (ok : F.Ok) {k : Nat} {msg : List Int} (hl : msg.length = k) (he : ∀ c ∈ msg, 0 ≤ c ∧ c < F.n) : ∃ t, t < F.n ^ k ∧ hig t F.n k = msg := by
  have hn : (0 : Int) < F.n := by have := ok.n_bd; omega
  have hr : ∀ c ∈ msg.reverse, 0 ≤ c ∧ c < F.n := fun c hc => he c (List.mem_reverse.1 hc)
  have h := num_bound hn hr
  rw [List.length_reverse, hl] at h
  obtain ⟨t, ht⟩ := Int.eq_ofNat_of_zero_le h.1
  refine ⟨t, ?_, ?_⟩
  · have h2 := h.2
    rw [ht, ← Int.natCast_pow] at h2
    exact Int.ofNat_lt.1 h2
  · rw [hig, ← ht, dig_num hn hr (by rw [List.length_reverse, hl]), List.reverse_reverse]
theorem hig_inj {q k s t : Nat} (hq : 0 < q) (hs : s < q ^ k) (ht : t < q ^ k) (h : hig s q k = hig t q k) : s = t := by
  have e : dig (s : Int) q k = dig (t : Int) q k := by
    have := congrArg List.reverse h
    rwa [hig, hig, List.reverse_reverse, List.reverse_reverse] at this
  have hb : ∀ s : Nat, s < q ^ k → (s : Int) < (q : Int) ^ k := fun s hs => by rw [← Int.natCast_pow]; exact Int.ofNat_lt.2 hs
  have e2 := congrArg (num (q : Int)) e
  rw [num_dig (p := (q : Int)) (by omega) k (by omega) (hb s hs), num_dig (p := (q : Int)) (by omega) k (by omega) (hb t ht)] at e2
  exact Int.ofNat_inj.1 e2
theorem GC.word_sp (h : GC F n m) {j : Nat} (hj : j < F.n ^ m.length) : (nthL (wordsTo F n m m.length) j).length = n ∧ (∀ x ∈ nthL (wordsTo F n m m.length) j, 0 ≤ x ∧ x < F.n) ∧ Sp F m (nth (nthL (wordsTo F n m m.length) j)) := by
  have ok := h.good.ok
  obtain ⟨n2, _⟩ := ok.n_bd
  rw [wordsTo_nth F n m hj]
  exact ⟨encTo_len _ _ _ _ _, encTo_el ok _ _ _ _, encTo_sp ok h.mat (hig_el j (by omega) _) (Nat.le_refl _)⟩
theorem sp_mem (ok : F.Ok) {v : List Int} (hs : Sp F m (nth v)) : ∀ x ∈ v, 0 ≤ x ∧ x < F.n := fun x hx => by
  obtain ⟨i, hi, rfl⟩ := List.getElem_of_mem hx
  rw [← nth_lt hi]
  exact (el_n ok).1 (hs.el ok i)
theorem GC.sp_word (h : GC F n m) {v : List Int} (hl : v.length = n) (hs : Sp F m (nth v)) : ∃ j, j < F.n ^ m.length ∧ nthL (wordsTo F n m m.length) j = v := by
  have ok := h.good.ok
  obtain ⟨pv, hE⟩ := h.ech
  have he := hE.enc ok hl hs
  obtain ⟨t, ht, e⟩ := hig_all ok (k := m.length) (msg := pv.map (nth v)) (by rw [List.length_map, hE.len]) fun c hc => by
    obtain ⟨i, _, rfl⟩ := List.mem_map.1 hc
    exact (el_n ok).1 (hs.el ok i)
  exact ⟨t, ht, by rw [wordsTo_nth F n m ht, e, ← he]⟩
theorem GC.word_inj (h : GC F n m) {i j : Nat} (hi : i < F.n ^ m.length) (hj : j < F.n ^ m.length) (e : nthL (wordsTo F n m m.length) i = nthL (wordsTo F n m m.length) j) : i = j := by
  have ok := h.good.ok
  obtain ⟨n2, _⟩ := ok.n_bd
  obtain ⟨pv, hE⟩ := h.ech
  rw [wordsTo_nth F n m hi, wordsTo_nth F n m hj] at e
  refine hig_inj (by omega) hi hj (eq_of_nth (by rw [hig_len, hig_len]) fun l hl => ?_)
  rw [hig_len] at hl
  have h1 := encTo_piv ok hE (hig_el i (show 0 < F.n by omega) m.length) hl
  have h2 := encTo_piv ok hE (hig_el j (show 0 < F.n by omega) m.length) hl
  rw [← h1, e, h2]
/-! ### Counts -/
theorem cntW_count (words : List (List Int)) {n d : Nat} (hd : d ≤ n) (k : Nat) : nth (cntW words n k) d = (((List.range k).countP fun j => wt (nthL words j) == d : Nat) : Int) := by
  induction k with
  | zero => rw [cntW, zeros_nth]; rfl
  | succ k ih =>
    rw [cntW, List.range_succ, List.countP_append]
    by_cases e : wt (nthL words k) = d
    · rw [e, nth_set_same (by rw [cntW_len]; omega), ih]
      simp [e]
    · rw [nth_set_ne e, ih]
      simp [e]
theorem GC.wts_count (_h : GC F n m) {d : Nat} (hd : d ≤ n) : nth (wts F n m) d = (((List.range (F.n ^ m.length)).countP fun j => wt (nthL (wordsTo F n m m.length) j) == d : Nat) : Int) := by
  rw [wts, cntW_count _ hd, wordsTo_len]
/-- The distance is the least weight. -/
theorem GC.dist_spec (h : GC F n m) : (∃ v, v.length = n ∧ Sp F m (nth v) ∧ wt v = distC F n m) ∧ ∀ v, v.length = n → Sp F m (nth v) → 1 ≤ wt v → distC F n m ≤ wt v := by
  have ok := h.good.ok
  obtain ⟨d0, h1, h2, h3⟩ := h.some_wt
  have hl := leastD_ok h1 (by rw [wts_len]; omega) h3
  rw [← show distC F n m = leastD (wts F n m) from rfl] at hl
  constructor
  · have h4 := hl.2.2.1
    rw [h.wts_count (by omega)] at h4
    have h5 : 0 < (List.range (F.n ^ m.length)).countP fun j => wt (nthL (wordsTo F n m m.length) j) == distC F n m := by omega
    obtain ⟨j, hj, hw⟩ := List.countP_pos_iff.1 h5
    have hj' := List.mem_range.1 hj
    have hs := h.word_sp hj'
    exact ⟨_, hs.1, hs.2.2, by simpa using hw⟩
  · intro v hv hs hw
    obtain ⟨j, hj, e⟩ := h.sp_word hv hs
    have hle : wt v ≤ n := by rw [wt, hv]; exact wtTo_le _ _
    rcases Nat.lt_or_ge (wt v) (distC F n m) with hlt | hge
    · have h4 := hl.2.2.2 (wt v) hw hlt
      rw [h.wts_count hle] at h4
      have h5 : 0 < (List.range (F.n ^ m.length)).countP fun j => wt (nthL (wordsTo F n m m.length) j) == wt v := List.countP_pos_iff.2 ⟨j, List.mem_range.2 hj, by rw [e]; simp⟩
      omega
    · exact hge
/-- Singleton's bound. -/
theorem GC.singleton (h : GC F n m) : distC F n m + m.length ≤ n + 1 := by
  have ok := h.good.ok
  obtain ⟨n2, _⟩ := ok.n_bd
  obtain ⟨pv, hE⟩ := h.ech
  have hm := h.m1
  have hr := Mat_nth h.mat (i := 0) (by omega)
  have hpl := hE.len
  have hs := Sp.row ok h.mat (j := 0) (by omega)
  have h1 : nth (nthL m 0) (pv.getD 0 0) = 1 := by rw [hE.one 0 0 (by omega) (by omega), if_pos rfl]
  have h2 : 1 ≤ wt (nthL m 0) := by
    rw [wt_wf hr.1]
    exact wf_one (hE.lt 0 (by omega)) (by omega)
  have h3 := h.dist_spec.2 _ hr.1 hs h2
  have h4 := wf_zeros (nth (nthL m 0)) n (Z := (List.range (m.length - 1)).map fun j => pv.getD (j + 1) 0) (by
    rw [List.Nodup, List.pairwise_map]
    refine List.Pairwise.imp_of_mem (fun {a b} ha hb hab => ?_) (List.pairwise_lt_range)
    have := hE.mono (a + 1) (b + 1) (by omega) (by have := List.mem_range.1 hb; omega)
    omega) fun i hi => by
      obtain ⟨j, hj, rfl⟩ := List.mem_map.1 hi
      have := List.mem_range.1 hj
      exact ⟨hE.lt _ (by omega), by rw [hE.one 0 (j + 1) (by omega) (by omega), if_neg (by omega)]⟩
  rw [List.length_map, List.length_range, ← wt_wf hr.1] at h4
  omega
theorem hasV_iff (h : GC F n m) {v : List Int} : hasV F n m v = true ↔ v.length = n ∧ (∀ x ∈ v, 0 ≤ x ∧ x < F.n) ∧ Sp F m (nth v) := by
  rw [hasV]
  by_cases e : v.length = n ∧ elems F.n v = true
  · have hv : v.length = n ∧ ∀ x ∈ v, 0 ≤ x ∧ x < F.n := ⟨e.1, fun x hx => elems_true.1 e.2 x hx⟩
    have hr := rank_iff h.good h.mat hv
    rw [h.fix] at hr
    rw [if_pos e, decide_eq_true_eq, hr]
    exact ⟨fun h => ⟨hv.1, hv.2, h⟩, fun h => h.2.2⟩
  · rw [if_neg e]
    refine ⟨fun h => by simp at h, fun h => absurd ⟨h.1, elems_true.2 h.2.1⟩ e⟩
end
end Go.Proofs.Ytgmgpcaahanmiaa

/-
  Plain mathematics: a Reed-Solomon code has the greatest distance; words of polynomials are its words.
-/
namespace Go.Proofs.Ytgmgpcaahanmiaa
open Go.RowKit

section
variable {F : FD}
theorem valF_add (ok : F.Ok) (x : Int) : ∀ p q : List Int, p.length = q.length → valF F x (List.zipWith F.add p q) = F.add (valF F x p) (valF F x q)
  | [], [], _ => by show (0 : Int) = F.add 0 0; rw [add_zero' ok (zero_el ok)]
  | c :: cs, d :: ds, h => by
    have ih := valF_add ok x cs ds (by simpa using h)
    rw [List.zipWith_cons_cons, valF_cons, ih, valF_cons, valF_cons, add_mul' ok, add4 ok]
  | [], _ :: _, h => by simp at h
  | _ :: _, [], h => by simp at h
theorem valF_scale (ok : F.Ok) (c x : Int) : ∀ p : List Int, valF F x (scale F c p) = F.mul c (valF F x p)
  | [] => by show (0 : Int) = F.mul c 0; rw [mul_zero_all ok]
  | d :: ds => by
    have ih := valF_scale ok c x ds
    show valF F x (F.mul c d :: scale F c ds) = _
    rw [valF_cons, ih, valF_cons, mul_add' ok, mul_assoc_all ok]
theorem valF_zeros (ok : F.Ok) (x : Int) : ∀ k, valF F x (zeros k) = 0
  | 0 => rfl
  | k + 1 => by
    show valF F x (0 :: zeros k) = 0
    rw [valF_cons, valF_zeros ok x k, zero_mul_all ok, add_zero' ok (zero_el ok)]
theorem unit_nth {k i : Nat} (hi : i < k) (l : Nat) : nth (unit k i) l = if l = i then 1 else 0 := by
  rw [unit]
  by_cases e : l = i
  · subst e
    rw [if_pos rfl, nth_set_same (by rw [zeros_len]; exact hi)]
  · rw [if_neg e, nth_set_ne (fun h => e h.symm), zeros_nth]
theorem rsRows_nth (F : FD) (k n : Nat) {t j : Nat} (hj : j < t) : nthL (rsRows F k n t) j = vals F (unit k j) n := by simp [rsRows, nthL, hj]
theorem nth_zip {f : Int → Int → Int} {xs ys : List Int} (hl : xs.length = ys.length) {i : Nat} (hi : i < xs.length) : nth (List.zipWith f xs ys) i = f (nth xs i) (nth ys i) := by
  rw [nth_lt (by rw [List.length_zipWith]; omega), List.getElem_zipWith, nth_lt hi, nth_lt (by omega)]
/-- What the first t rows make are the values of polynomials. -/
theorem rs_poly (ok : F.Ok) {k n t : Nat} (ht : t ≤ k) {v : Nat → Int} (hv : Sp F (rsRows F k n t) v) :
    ∃ msg : List Int, msg.length = k ∧ (∀ c ∈ msg, F.el c) ∧ (∀ l, t ≤ l → nth msg l = 0) ∧ ∀ i, i < n → v i = valF F i msg := by
  induction hv with
  | zero => exact ⟨zeros k, zeros_len k, fun c hc => by rw [zeros, List.mem_replicate] at hc; rw [hc.2]; exact zero_el ok, fun l _ => zeros_nth k l, fun i _ => (valF_zeros ok i k).symm⟩
  | @step v j c h hj hc ih =>
    obtain ⟨msg, hl, he, hz, hval⟩ := ih
    rw [rsRows_len] at hj
    have hsl : (scale F c (unit k j)).length = k := by rw [scale_len, unit_len]
    have hzl : (List.zipWith F.add msg (scale F c (unit k j))).length = k := by rw [List.length_zipWith]; omega
    refine ⟨List.zipWith F.add msg (scale F c (unit k j)), hzl, fun x hx => ?_, fun l hlt => ?_, fun i hi => ?_⟩
    · obtain ⟨i, hi, rfl⟩ := List.getElem_of_mem hx
      rw [List.getElem_zipWith]
      exact lin_el ok _ _ _
    · rcases Nat.lt_or_ge l k with hlk | hlk
      · rw [nth_zip (by omega) (by omega), hz l hlt, scale_nth_all ok, unit_nth (by omega), if_neg (by omega), mul_zero_all ok, add_zero' ok (zero_el ok)]
      · exact nth_big (by omega)
    · show F.add (v i) (F.mul c (nth (nthL (rsRows F k n t) j) i)) = _
      rw [valF_add ok i _ _ (by omega), valF_scale ok, ← hval i hi, rsRows_nth F k n hj, vals_nth F _ hi]
/-- The first t elements of a message. -/
def tk (msg : List Int) (k t : Nat) : List Int := (List.range k).map fun l => if l < t then nth msg l else 0
theorem tk_len (msg : List Int) (k t : Nat) : (tk msg k t).length = k := by simp [tk]
theorem tk_nth (msg : List Int) (k t : Nat) {l : Nat} (hl : l < k) : nth (tk msg k t) l = if l < t then nth msg l else 0 := by simp [tk, nth, hl]
/-- The values of a polynomial are a word. -/
theorem rs_sp (ok : F.Ok) {k n : Nat} {msg : List Int} (hl : msg.length = k) (he : ∀ c ∈ msg, F.el c) : Sp F (rsRows F k n k) (nth (vals F msg n)) := by
  have key : ∀ t, t ≤ k → Sp F (rsRows F k n k) (nth (vals F (tk msg k t) n)) := by
    intro t
    induction t with
    | zero =>
      intro _
      have e : nth (vals F (tk msg k 0) n) = fun _ => 0 := by
        funext i
        have e0 : tk msg k 0 = zeros k := eq_of_nth (by rw [tk_len, zeros_len]) fun l hh => by
          rw [tk_len] at hh
          rw [tk_nth msg k 0 hh, if_neg (by omega), zeros_nth]
        rcases Nat.lt_or_ge i n with hi | hi
        · rw [vals_nth F _ hi, e0, valF_zeros ok]
        · exact nth_big (by rw [vals_len]; exact hi)
      rw [e]; exact .zero
    | succ t ih =>
      intro htk
      have hc : F.el (nth msg t) := he _ (nth_mem (by omega))
      have h := (ih (by omega)).step (j := t) (by rw [rsRows_len]; omega) hc
      have e : (fun i => F.add (nth (vals F (tk msg k t) n) i) (F.mul (nth msg t) (nth (nthL (rsRows F k n k) t) i))) = nth (vals F (tk msg k (t + 1)) n) := by
        funext i
        rw [rsRows_nth F k n (show t < k by omega)]
        have e0 : tk msg k (t + 1) = List.zipWith F.add (tk msg k t) (scale F (nth msg t) (unit k t)) := eq_of_nth (by rw [List.length_zipWith, tk_len, tk_len, scale_len, unit_len]; omega) fun l hh => by
          rw [tk_len] at hh
          rw [nth_zip (by rw [tk_len, scale_len, unit_len]) (by rw [tk_len]; exact hh), tk_nth msg k _ hh, tk_nth msg k _ hh, scale_nth_all ok, unit_nth (by omega)]
          have hel : F.el (nth msg l) := he _ (nth_mem (by omega))
          rcases Nat.lt_trichotomy l t with h1 | h1 | h1
          · rw [if_pos (by omega), if_pos h1, if_neg (by omega), mul_zero_all ok, add_zero' ok hel]
          · rw [if_pos (by omega), if_neg (by omega), if_pos h1, mul_comm' ok, one_mul' ok hc, zero_add' ok hc, h1]
          · rw [if_neg (by omega), if_neg (by omega), if_neg (by omega), mul_zero_all ok, add_zero' ok (zero_el ok)]
        rcases Nat.lt_or_ge i n with hi | hi
        · rw [vals_nth F _ hi, vals_nth F _ hi, vals_nth F _ hi, e0, valF_add ok _ _ _ (by rw [tk_len, scale_len, unit_len]), valF_scale ok]
        · rw [nth_big (xs := vals F (tk msg k t) n) (by rw [vals_len]; exact hi), nth_big (xs := vals F (unit k t) n) (by rw [vals_len]; exact hi), nth_big (xs := vals F (tk msg k (t + 1)) n) (by rw [vals_len]; exact hi), mul_zero_all ok, add_zero' ok (zero_el ok)]
      rw [e] at h
      exact h
  have h := key k (Nat.le_refl _)
  rwa [show tk msg k k = msg from eq_of_nth (by rw [tk_len, hl]) fun l hh => by
    rw [tk_len] at hh
    rw [tk_nth msg k k hh, if_pos hh]] at h
theorem apart_self {a b : List Int} {k : Nat} (h : ∀ i, i < k → nth a i = nth b i) : apartTo a b k = 0 := by
  induction k with
  | zero => rfl
  | succ k ih => rw [apartTo, if_pos (h k (by omega)), ih fun i hi => h i (by omega)]
theorem apart_set {a b : List Int} (i : Nat) (x : Int) (k : Nat) : apartTo a (b.set i x) k ≤ apartTo a b k + 1 := by
  have h1 : ∀ k, k ≤ i → apartTo a (b.set i x) k = apartTo a b k := by
    intro k
    induction k with
    | zero => intro _; rfl
    | succ k ih => intro h; rw [apartTo, apartTo, ih (by omega), nth_set_ne (by omega)]
  induction k with
  | zero => exact Nat.zero_le _
  | succ k ih =>
    by_cases e : k = i
    · subst e
      have := h1 k (Nat.le_refl _)
      rw [apartTo, apartTo, this]
      split <;> split <;> omega
    · rw [apartTo, apartTo, nth_set_ne (fun h => e h.symm)]
      split <;> omega
theorem unit_el' (ok : F.Ok) (k i : Nat) : ∀ c ∈ unit k i, F.el c := fun c hc => by
  obtain ⟨n2, _⟩ := ok.n_bd
  rw [unit] at hc
  rcases List.mem_or_eq_of_mem_set hc with h | h
  · rw [zeros, List.mem_replicate] at h
    rw [h.2]; exact zero_el ok
  · rw [h]; exact one_el ok
theorem rs_rank (hG : F.Good) {k n : Nat} (hk : k ≤ n) (hn : n ≤ F.n) : ∀ t, t ≤ k → (form F (rsRows F k n t) n).length = t := by
  have ok := hG.ok
  intro t
  induction t with
  | zero => intro _; show (form F [] n).length = 0; rw [form_nil]; rfl
  | succ t ih =>
    intro ht
    have ih := ih (by omega)
    have hle : (form F (rsRows F k n (t + 1)) n).length ≤ t + 1 := by
      rw [form_len]
      have := red_piv F (rsRows F k n (t + 1)) n
      rwa [rsRows_len] at this
    have hM := rsRows_Mat ok k n t
    have hv : (vals F (unit k t) n).length = n ∧ ∀ x ∈ vals F (unit k t) n, 0 ≤ x ∧ x < F.n := ⟨vals_len _ _ _, vals_el ok _ _⟩
    rw [rsRows_succ] at hle ⊢
    have hr := rank_iff hG hM hv
    rw [ih] at hr
    obtain ⟨pa, _, hA, hsa⟩ := form_ech hG hM
    obtain ⟨pb, _, hB, hsb⟩ := form_ech hG (Mat_snoc hM hv)
    have hge := Ech.len_le ok hA hB fun v h => (hsb v).2 (Sp.of ok (fun j hj => by
      have e : nthL (rsRows F k n t) j = nthL (rsRows F k n t ++ [vals F (unit k t) n]) j := (nthL_snoc_lt hj).symm
      rw [e]
      exact Sp.row ok (Mat_snoc hM hv) (by rw [List.length_append]; omega)) ((hsa v).1 h))
    rw [ih] at hge
    rcases Nat.lt_or_ge (form F (rsRows F k n t ++ [vals F (unit k t) n]) n).length (t + 1) with hlt | hge2
    · exfalso
      obtain ⟨msg, hl, he, hz, hval⟩ := rs_poly ok (by omega) (hr.1 (by omega))
      have hu := vals_unique hG hn hk (m1 := msg) (m2 := unit k t) (w := vals F msg n) hl (unit_len _ _) he (unit_el' ok k t)
        (by rw [apart_self fun i _ => rfl]; omega) (by
          rw [apart_self fun i hi => by rw [hval i hi, vals_nth F _ hi]]
          omega)
      have h1 := hz t (Nat.le_refl _)
      rw [hu, unit_nth (by omega), if_pos rfl] at h1
      omega
    · omega
/-- The code's distance. -/
theorem rs_dist (hG : F.Good) {k n : Nat} (hk : k ≤ n) (hn : n ≤ F.n) (hC : GC F n (form F (rsRows F k n k) n)) : distC F n (form F (rsRows F k n k) n) + k = n + 1 := by
  have ok := hG.ok
  have hM := rsRows_Mat ok k n k
  obtain ⟨pa, _, hA, hsa⟩ := form_ech hG hM
  have hr := rs_rank hG hk hn k (Nat.le_refl _)
  have h1 := hC.singleton
  rw [hr] at h1
  obtain ⟨v, hvl, hvs, hvw⟩ := hC.dist_spec.1
  have h2 := hC.dist.1
  obtain ⟨msg, hl, he, _, hval⟩ := rs_poly ok (Nat.le_refl _) ((hsa _).1 hvs)
  rw [wt_wf hvl] at hvw
  have h3 := List.length_eq_countP_add_countP (fun i => nth v i != 0) (l := List.range n)
  rw [List.length_range] at h3
  rcases Nat.lt_or_ge ((List.range n).filter fun i => decide ¬((nth v i != 0) = true)).length k with hlt | hge
  · rw [← List.countP_eq_length_filter] at hlt
    rw [wf] at hvw
    omega
  · exfalso
    have hz := roots hG k msg (by omega) he (((List.range n).filter fun i => decide ¬((nth v i != 0) = true)).map fun (i : Nat) => (i : Int)) (by
      refine List.Pairwise.map _ (fun a b h e => h (by exact_mod_cast e)) (List.Pairwise.filter _ List.nodup_range)) (fun r hr => by
      obtain ⟨i, hi, rfl⟩ := List.mem_map.1 hr
      obtain ⟨hi1, hi2⟩ := List.mem_filter.1 hi
      rw [List.mem_range] at hi1
      refine ⟨(el_n ok).2 ⟨by omega, by omega⟩, ?_⟩
      rw [← hval i hi1]
      simpa using hi2) (by rw [List.length_map]; exact hge)
    obtain ⟨i, hi, hne⟩ := wf_pos (v := nth v) (k := n) (by omega)
    apply hne
    rw [hval i hi, show msg = zeros k from eq_of_nth (by rw [zeros_len, hl]) fun l hh => by rw [zeros_nth]; exact hz _ (nth_mem hh), valF_zeros ok]
end
end Go.Proofs.Ytgmgpcaahanmiaa

/-
  Plain mathematics: a code made of rows is valid.
-/
namespace Go.Proofs.Ytgmgpcaahanmiaa
open Go.RowKit
section
variable {F : FD} {n : Nat} {m A : List (List Int)}
theorem FD.Good.okF (h : F.Good) : okF F.p F.k F.poly = true := by
  have ok := h.ok
  have hk := ok.k1
  have hk6 := ok.k6
  simp only [Go.Proofs.Ytgmgpcaahanmiaa.okF, Bool.and_eq_true, inB_true, beq_iff_eq, List.all_eq_true]
  refine ⟨⟨ok.p2, ok.p64⟩, ⟨by omega, by omega⟩, by rw [ok.len]; omega, by rw [Int.toNat_natCast]; exact ok.one, by rw [Int.toNat_natCast, h.spl], fun x hx => ?_, ok.irr⟩
  have := ok.inR x hx
  exact ⟨this.1, by omega⟩
theorem GC.okC (h : GC F n m) : okC F.p F.k F.poly m = true := by
  have hM := h.mat
  rw [Go.Proofs.Ytgmgpcaahanmiaa.okC, Bool.and_eq_true, Bool.and_eq_true, Bool.and_eq_true, decide_eq_true_eq, decide_eq_true_eq, decide_eq_true_eq, fdR_eq]
  refine ⟨?_, h.m8, h.cap, by rw [h.hn]; exact h.fix⟩
  rw [okM, Bool.and_eq_true]
  refine ⟨h.good.okF, ?_⟩
  rw [okR_true]
  refine ⟨h.m1, by have := h.m8; omega, by rw [h.hn]; exact h.n1, by rw [h.hn]; exact h.n32, fun r hr => ?_⟩
  rw [h.hn, Int.toNat_natCast, h.good.ok.n_eq]
  exact ⟨(hM r hr).1, elems_true.2 (hM r hr).2⟩
theorem mkC_gc (hG : F.Good) (hM : F.Mat n A) (n1 : 1 ≤ n) (n32 : n ≤ 32) (h : (mkC F (form F A n)).2.2.2.2 = 0) : GC F n (form F A n) ∧ mkC F (form F A n) = (F.p, (F.k : Int), F.poly, form F A n, 0) := by
  obtain ⟨pv, _, hE, _⟩ := form_ech hG hM
  rw [mkC] at h ⊢
  by_cases h0 : (form F A n).length = 0
  · rw [if_pos h0] at h; simp at h
  · rw [if_neg h0] at h ⊢
    by_cases h1 : 8 < (form F A n).length ∨ 4096 < capTo F.n 4096 (form F A n).length
    · rw [if_pos h1] at h; simp at h
    · rw [if_neg h1]
      exact ⟨⟨hG, by omega, by omega, n1, n32, (Mat_nth hE.mat (by omega)).1, hE.mat, by omega, (form_fix hG hE).1⟩, rfl⟩
theorem capTo_mono {b l : Int} (hb : 1 ≤ b) (hl : 0 ≤ l) : ∀ {i j : Nat}, i ≤ j → capTo b l j ≤ l → capTo b l i ≤ l := by
  intro i j hij h
  rcases Classical.em (capTo b l i ≤ l) with h1 | h1
  · exact h1
  · rw [capTo_stop h1 j hij] at h; exact h
/-- What cannot go wrong where the rows are no more than those of a valid code. -/
theorem GC.mk_code (h : GC F n m) {n' : Nat} (hA : F.Mat n' A) (hl : A.length ≤ m.length) : (mkC F (form F A n')).2.2.2.2 = 0 ∨ mkC F (form F A n') = (0, 0, [], [], 6) := by
  have h1 : (form F A n').length ≤ m.length := by
    rw [form_len]
    have := red_piv F A n'
    omega
  have h8 := h.m8
  rw [mkC]
  by_cases h0 : (form F A n').length = 0
  · rw [if_pos h0]; exact .inr rfl
  · rw [if_neg h0, if_neg]
    · exact .inl rfl
    · have ok := h.good.ok
      have n2 := ok.n_bd
      have := capTo_mono (b := F.n) (l := 4096) (by omega) (by omega) h1 h.cap
      omega
end
end Go.Proofs.Ytgmgpcaahanmiaa

/-
  Plain mathematics: what the laws on Reed-Solomon codes ask.
-/
namespace Go.Proofs.Ytgmgpcaahanmiaa
open Go.RowKit
theorem rsRes_err {q k n : Int} (h : (rsRes q k n).2.2.2.2 ≠ 0) : (rsRes q k n).2.2.2.1 = [] := by
  rw [rsRes] at h ⊢
  by_cases h0 : rsCode q k n = 0
  · rw [if_pos h0] at h ⊢
    rw [mkC] at h ⊢
    split
    · rfl
    · rename_i h1
      rw [if_neg h1] at h
      split
      · rfl
      · rename_i h2
        rw [if_neg h2] at h
        exact absurd rfl h
  · rw [if_neg h0]
/-- All that is known of a Reed-Solomon code. -/
structure RsOk (F : FD) (K N : Nat) (A : List (List Int)) : Prop where
  gc : GC F N A
  k1 : 1 ≤ K
  k8 : K ≤ 8
  kn : K ≤ N
  nq : N ≤ F.n
  n32 : N ≤ 32
  res : rsRes F.n K N = (F.p, (F.k : Int), F.poly, A, 0)
  mds : mdsRes F.p F.k F.poly A = (true, 0)
  pw : ∀ msg : List Int, msg.length = K → (∀ c ∈ msg, 0 ≤ c ∧ c < F.n) → pwRes F.n msg N = (vals F msg N, 0)
  has : ∀ msg : List Int, msg.length = K → (∀ c ∈ msg, 0 ≤ c ∧ c < F.n) → hasRes F.p F.k F.poly A (vals F msg N) = true
  dec : ∀ wd msg : List Int, msg.length = K → (∀ c ∈ msg, 0 ≤ c ∧ c < F.n) → wd.length = N → (∀ c ∈ wd, 0 ≤ c ∧ c < F.n) → 2 * apartTo (vals F msg N) wd N ≤ N - K → dpRes F.n K wd = (msg, 0)
theorem rs_ok {q k n : Int} (h : (rsRes q k n).2.2.2.2 = 0) : ∃ (F : FD) (K N : Nat) (A : List (List Int)), q = F.n ∧ k = K ∧ n = N ∧ RsOk F K N A := by
  have h0 : rsCode q k n = 0 := by
    rcases Classical.em (rsCode q k n = 0) with h0 | h0
    · exact h0
    · rw [rsRes, if_neg h0] at h; exact h
  obtain ⟨hf, h2, h64, hn1, hn2, hk1, hk2, hkn, hcap⟩ := rsCode_zero h0
  have hnq := rs_nq h0
  obtain ⟨ok, hpk, hs⟩ := fdOf_ok hf
  have hG := fdOf_good hf
  have hn : q = ((fdOf q).n : Int) := by rw [← ok.n_eq, hpk]
  have hlen : lenOk q n = true := by
    rcases Classical.em (lenOk q n = true) with h1 | h1
    · exact h1
    · rw [rsCode, if_neg h1] at h0; omega
  obtain ⟨K, rfl⟩ := Int.eq_ofNat_of_zero_le (show 0 ≤ k by omega)
  obtain ⟨N, rfl⟩ := Int.eq_ofNat_of_zero_le (show 0 ≤ n by omega)
  have hres : rsRes q K N = mkC (fdOf q) (form (fdOf q) (rsRows (fdOf q) K N K) N) := by rw [rsRes, if_pos h0]; simp
  have hpw : ∀ msg : List Int, pwRes q msg N = if decide (0 < msg.length) && elems q msg then (vals (fdOf q) msg N, 0) else ([], 1) := fun msg => by rw [pwRes, if_pos hlen]; simp
  have hdp : ∀ wd : List Int, wd.length = N → dpRes q K wd = if elems q wd = true then Go.Proofs.Ytgmgpcaahanmiaa.dec (fdOf q) K N wd else ([], 1) := fun wd hw => by rw [dpRes, hw, if_pos h0]; simp
  rw [hres] at h
  have hM := rsRows_Mat ok K N K
  obtain ⟨hC, hmk⟩ := mkC_gc hG hM (by omega) (by omega) h
  rw [hmk] at hres
  refine ⟨fdOf q, K, N, form (fdOf q) (rsRows (fdOf q) K N K) N, hn, rfl, rfl, ?_⟩
  generalize fdOf q = F at *
  subst hn
  have hrk := rs_rank hG (k := K) (n := N) (by omega) (by omega) K (Nat.le_refl _)
  have hd := rs_dist hG (k := K) (n := N) (by omega) (by omega) hC
  obtain ⟨_, _, _, hsp⟩ := form_ech hG hM
  have hdec : ∀ wd msg : List Int, msg.length = K → (∀ c ∈ msg, 0 ≤ c ∧ c < F.n) → wd.length = N → (∀ c ∈ wd, 0 ≤ c ∧ c < F.n) → 2 * apartTo (vals F msg N) wd N ≤ N - K → dpRes F.n K wd = (msg, 0) := fun wd msg hl he hw hwe ha => by
    rw [hdp wd hw, if_pos (elems_true.2 hwe)]
    exact dec_yes hG (by omega) (by omega) ⟨hl, he, ha⟩
  refine ⟨hC, by omega, by omega, by omega, by omega, by omega, hres, ?_, fun msg hl he => ?_, fun msg hl he => ?_, hdec⟩
  · rw [mdsRes, if_pos hC.okC, fdR_eq, hC.hn, hrk]
    have : ((distC F N (form F (rsRows F K N K) N) : Int) == (N : Int) - K + 1) = true := by
      rw [beq_iff_eq]; omega
    rw [this]
  · rw [hpw msg, show decide (0 < msg.length) = true from decide_eq_true (by omega), elems_true.2 he]
    rfl
  · rw [hasRes, hC.okC, fdR_eq, hC.hn, Bool.true_and, hasV_iff hC]
    exact ⟨vals_len _ _ _, vals_el ok _ _, (hsp _).2 (rs_sp ok hl fun c hc => (el_n ok).2 (he c hc))⟩
end Go.Proofs.Ytgmgpcaahanmiaa

