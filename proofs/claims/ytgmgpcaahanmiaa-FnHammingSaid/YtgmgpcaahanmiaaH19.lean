/-
  Texts joined.
-/
import Derived.Lib.AppendZeros
import Derived.Test.YtgmgpcaahanmiaaH6
import Derived.Test.YtgmgpcaahanmiaaH7
import Derived.Test.YtgmgpcaahanmiaaH15
import Derived.Test.YtgmgpcaahanmiaaH16
import Derived.Test.YtgmgpcaahanmiaaH18
set_option linter.unusedVariables false
set_option linter.unusedSimpArgs false
set_option maxRecDepth 100000
set_option maxHeartbeats 40000000
namespace Go.Proofs.Ytgmgpcaahanmiaa
open Go.RowKit
attribute [local go_sem ↓] Go.wp_at_zero Go.wp_at_succ
def CapS (w : World) (ra : Option Addr) (m : List (List Int)) : Prop := ∀ g ob, ra = some ⟨g, ob, none⟩ → ∀ k, k < m.length → ∀ ai n ci, w.cell? ⟨g, ob + k, none⟩ = some (.slice ai n ci) → n ≤ ci
theorem CapS.below {w w' : World} {ra : Option Addr} {m : List (List Int)} (h : CapS w ra m) (hm : RdS w ra m) (b : Below w.heap.size w w') : CapS w' ra m := by
 intro g ob e k hk ai n ci hc
 obtain ⟨g', ob', e', hg, _⟩ := hm.at_ (by omega)
 rw [e] at e'
 injection e' with e'
 injection e' with e1 e2
 subst e1
 exact h g ob e k hk ai n ci ((b.cell (p := ⟨g, ob + k, none⟩) hg).symm.trans hc)
end Go.Proofs.Ytgmgpcaahanmiaa
namespace Go.Proofs.Ytgmgpcaahanmiaa
open Go.RowKit
attribute [local go_sem ↓] Go.wp_at_zero Go.wp_at_succ
theorem RdS.two {w : World} {g : Nat} {a1 a2 : Option Addr} {c1 c2 : Nat} {x1 x2 : List Int} (h1 : w.cell? ⟨g, 0, none⟩ = some (.slice a1 x1.length c1)) (h2 : w.cell? ⟨g, 1, none⟩ = some (.slice a2 x2.length c2)) (r1 : Rd w a1 x1) (r2 : Rd w a2 x2) : RdS w (some ⟨g, 0, none⟩) [x1, x2] := by
 refine ⟨by simp, fun _ => ⟨g, 0, rfl, fun i hi => ?_⟩⟩
 rcases i with _ | _ | i
 · exact ⟨a1, c1, h1, r1⟩
 · exact ⟨a2, c2, h2, r2⟩
 · exact absurd hi (by simp only [List.length_cons, List.length_nil]; omega)
end Go.Proofs.Ytgmgpcaahanmiaa
namespace Go.Proofs.Ytgmgpcaahanmiaa
open Go.RowKit
section
variable {F : FD} {n : Nat} {m A : List (List Int)}
theorem sub4 (ok : F.Ok) (a b c d : Int) : F.sub (F.add a b) (F.add c d) = F.add (F.sub a c) (F.sub b d) :=
 lin_eq ok (lin_el ok _ _ _) (lin_el ok _ _ _) (fun i hi => D_lin2 ok hi (D_lin ok _ _ _ hi) (D_lin ok _ _ _ hi)) (fun i hi => D_lin2 ok hi (D_lin ok _ _ _ hi) (D_lin ok _ _ _ hi)) fun i => by omega
end
end Go.Proofs.Ytgmgpcaahanmiaa
namespace Go.Proofs.Ytgmgpcaahanmiaa
open Go.RowKit
section
variable {F : FD} {n : Nat} {m : List (List Int)}
theorem dist_res (h : GC F n m) : distRes F.p F.k F.poly m = ((distC F n m : Int), 0) := by rw [distRes, if_pos h.okC, h.hn, fdR_eq]
end
end Go.Proofs.Ytgmgpcaahanmiaa
namespace Go.Proofs.Ytgmgpcaahanmiaa
open Go.RowKit
section
variable {F : FD} {n R : Nat} {C : List (List Int)}
theorem sum_sub (ok : F.Ok) (f g : Nat → Int) (k : Nat) : F.sum (fun j => F.sub (f j) (g j)) k = F.sub (F.sum f k) (F.sum g k) := by
 induction k with
 | zero => rw [FD.sum, FD.sum, FD.sum, sub_self' ok]
 | succ k ih => rw [FD.sum, FD.sum, FD.sum, ih, sub4 ok]
theorem enc_set (ok : F.Ok) {word : List Int} {p N : Nat} (hp : p < N) (hpl : p < word.length) (c : Int) {k : Nat} (hk : k < R) :
    nth (encTo F R C (word.set p (F.sub (nth word p) c)) N) k = F.sub (nth (encTo F R C word N) k) (F.mul c (nth (nthL C p) k)) := by
 rw [encTo_sum ok R C _ N hk, encTo_sum ok R C _ N hk]
 have e : F.sum (fun j => F.mul (nth (word.set p (F.sub (nth word p) c)) j) (nth (nthL C j) k)) N = F.sum (fun j => F.sub (F.mul (nth word j) (nth (nthL C j) k)) (if j = p then F.mul c (nth (nthL C p) k) else 0)) N := sum_congr fun j hj => by
  by_cases h : j = p
  · subst h
    rw [nth_set_same hpl, if_pos rfl, sub_mul' ok]
  · rw [nth_set_ne (fun e => h e.symm), if_neg h, sub_zero_el ok (mul_el ok _ _)]
 rw [e, sum_sub ok, sum_one ok (l := p) hp (by rw [if_pos rfl]; exact mul_el ok _ _) (fun j _ hne => if_neg hne), if_pos rfl]
theorem corr_spec (hG : F.Good) (hC : C = colsUp F.n R (F.n ^ R)) (hCM : F.Mat R C) {word : List Int} (hl : word.length = C.length) (he : ∀ x ∈ word, 0 ≤ x ∧ x < F.n) :
    (corr F R C word).length = word.length ∧ apartTo (corr F R C word) word word.length ≤ 1 ∧ (∀ x ∈ corr F R C word, 0 ≤ x ∧ x < F.n) ∧ ∀ k, k < R → nth (encTo F R C (corr F R C word) C.length) k = 0 := by
 have ok := hG.ok
 have hSl : (encTo F R C word C.length).length = R := encTo_len _ _ _ _ _
 have hSe := encTo_el ok R C word C.length
 by_cases h0 : lead (encTo F R C word C.length) = 0
 · have e : corr F R C word = word := by rw [corr, if_pos h0]
   rw [e]
   refine ⟨rfl, by rw [apart_self fun i _ => rfl]; omega, he, fun k hk => lead_zero h0 _ (nth_mem (by omega))⟩
 · obtain ⟨p, h1, h2, h3, h4⟩ := cor_place hG hSl hSe h0
   rw [← hC] at h1 h2 h3 h4
   have hpl : plcC C (scale F (F.inv (lead (encTo F R C word C.length))) (encTo F R C word C.length)) = p := plcC_eq h1 h2 (h3 p (Nat.le_refl _) h1)
   have e : corr F R C word = word.set p (F.sub (nth word p) (lead (encTo F R C word C.length))) := by rw [corr, if_neg h0, hpl]
   have hlb := lead_bd (q := F.n) (by have := ok.n_bd; omega) hSe
   have hsc := (h4 p h1 (lead (encTo F R C word C.length)) (by omega) hlb.2).2 ⟨rfl, rfl⟩
   rw [e]
   refine ⟨List.length_set, ?_, set_bd he ((el_n ok).1 (sub_el' ok _ _)) p, fun k hk => ?_⟩
   · rw [apartTo_comm]
     have := apart_set (a := word) (b := word) p (F.sub (nth word p) (lead (encTo F R C word C.length))) word.length
     rw [apart_self (a := word) (b := word) fun i _ => rfl] at this
     omega
   · rw [enc_set ok h1 (by omega) _ hk]
     have hk2 : nth (scale F (lead (encTo F R C word C.length)) (nthL C p)) k = nth (encTo F R C word C.length) k := by rw [hsc]
     rw [scale_nth_all ok] at hk2
     rw [hk2, sub_self' ok]
theorem corr_again (_hG : F.Good) {x : List Int} (h : ∀ k, k < R → nth (encTo F R C x C.length) k = 0) : corr F R C x = x := by
 have hl : (encTo F R C x C.length).length = R := encTo_len _ _ _ _ _
 rw [corr, if_pos]
 refine lead_of_zero fun y hy => ?_
 obtain ⟨i, hi, rfl⟩ := List.getElem_of_mem hy
 rw [← nth_lt hi]
 exact h i (by omega)
end
theorem cor_law {q r : Int} {word : List Int} (h : (corRes q r word).2 = 0) : ∃ (F : FD) (x : List Int), corRes q r word = (x, 0) ∧ x.length = word.length ∧ apartTo x word word.length ≤ 1 ∧ corRes q r x = (x, 0) ∧ F.Good ∧
    ((hamRes q r).2.2.2.2 = 0 → ∃ A, hamRes q r = (F.p, (F.k : Int), F.poly, A, 0) ∧ hasRes F.p F.k F.poly A x = true) := by
 by_cases hk : (isField q && colsOk q r) = true
 · by_cases he : elems q word = true
   · by_cases hl : word.length = (hcols q r).length
     · obtain ⟨F, R, hG, hF, hq, rfl, hR2, hR4, hC, hCM, hC3, hC32, _⟩ := cor_facts hk
       have ok := hG.ok
       have hcr : corRes q R word = (corr F R (hcols q R) word, 0) := by rw [corRes, if_pos hk, if_pos he, if_pos hl, hF, Int.toNat_natCast]
       have he' : ∀ x ∈ word, 0 ≤ x ∧ x < (F.n : Int) := fun x hx => by have := elems_true.1 he x hx; omega
       obtain ⟨c1, c2, c3, c4⟩ := corr_spec hG hC hCM hl he'
       have c5 := corr_again hG c4
       have hcx : corRes q R (corr F R (hcols q R) word) = (corr F R (hcols q R) word, 0) := by
        rw [corRes, if_pos hk, if_pos (elems_true.2 fun x hx => by have := c3 x hx; omega), if_pos (by rw [c1, hl]), hF, Int.toNat_natCast, c5]
       refine ⟨F, _, hcr, c1, c2, hcx, hG, fun hh => ?_⟩
       have hham : hamRes q R = mkC F (nul F (cols (hcols q R) R) (hcols q R).length) := by rw [hamRes, if_pos hk, hF, Int.toNat_natCast]
       rw [hham] at hh ⊢
       generalize hcols q (R : Int) = C at *
       have hcm : F.Mat C.length (cols C R) := cols_Mat ok hCM
       have hN : F.Mat C.length (nulB F (cols C R) C.length) := nulTo_Mat ok _ _ _ _
       obtain ⟨hGC, hm⟩ := mkC_gc hG hN (by omega) (by omega) hh
       refine ⟨_, hm, ?_⟩
       rw [hasRes, hGC.okC, fdR_eq, hGC.hn, Bool.true_and, hasV_iff hGC]
       refine ⟨by rw [c1, hl], c3, ((nul_spec hG hcm).1 _ (nth_el' ok c3) fun i hi => nth_big (by omega)).2 fun k hk2 => ?_⟩
       have hk3 : k < R := by rwa [cols_len] at hk2
       rw [← c4 k hk3, encTo_sum ok R C _ _ hk3]
       refine sum_congr fun j hj => ?_
       rw [cols_nth C hk3, show nth (C.map fun row => nth row k) j = nth (nthL C j) k from by simp [nth, nthL, hj], mul_comm' ok]
     · rw [corRes, if_pos hk, if_pos he, if_neg hl] at h; exact absurd h (by decide)
   · rw [corRes, if_pos hk, if_neg he] at h; exact absurd h (by decide)
 · rw [corRes, if_neg hk] at h; exact absurd h (by decide)
theorem cor_err {q r : Int} {word : List Int} (h : (corRes q r word).2 ≠ 0) : (corRes q r word).1 = [] := by
 rw [corRes] at h ⊢
 by_cases hk : (isField q && colsOk q r) = true
 · rw [if_pos hk] at h ⊢
   by_cases he : elems q word = true
   · rw [if_pos he] at h ⊢
     by_cases hl : word.length = (hcols q r).length
     · rw [if_pos hl] at h; exact absurd rfl h
     · rw [if_neg hl]
   · rw [if_neg he]
 · rw [if_neg hk]
end Go.Proofs.Ytgmgpcaahanmiaa
namespace Go.Proofs.Ytgmgpcaahanmiaa
open Go.RowKit
section
variable {F : FD} {n : Nat} {m : List (List Int)}
theorem mkC_err {F : FD} {rows : List (List Int)} (h : (mkC F rows).2.2.2.2 ≠ 0) : (mkC F rows).2.2.2.1 = [] := by
 rw [mkC] at h ⊢
 split
 · rfl
 · rename_i h1
   rw [if_neg h1] at h
   split
   · rfl
   · rename_i h2
     rw [if_neg h2] at h
     exact absurd rfl h
theorem dual_res (h : GC F n m) : dualRes F.p F.k F.poly m = mkC F (nul F m n) := by rw [dualRes, if_pos h.okC, fdR_eq, h.hn]
end
end Go.Proofs.Ytgmgpcaahanmiaa
namespace Go.Proofs.Ytgmgpcaahanmiaa
open Go.RowKit
section
variable {F : FD} {n R : Nat} {C A : List (List Int)}
theorem sp_coef (ok : F.Ok) {v : Nat → Int} (hv : Sp F A v) : ∃ msg : List Int, msg.length = A.length ∧ (∀ c ∈ msg, 0 ≤ c ∧ c < F.n) ∧ ∀ i, i < n → v i = nth (encTo F n A msg A.length) i := by
 obtain ⟨n2, _⟩ := ok.n_bd
 induction hv with
 | zero =>
  refine ⟨zeros A.length, zeros_len _, fun c hc => ?_, fun i hi => ?_⟩
  · rw [zeros, List.mem_replicate] at hc
    rw [hc.2]; omega
  · rw [encTo_sum ok n A _ _ hi]
    exact (sum_zero ok fun j _ => by rw [zeros_nth, zero_mul_all ok]).symm
 | @step v j c hs hj hc ih =>
  obtain ⟨msg, hl, he, hval⟩ := ih
  refine ⟨msg.set j (F.add (nth msg j) c), by rw [List.length_set, hl], set_bd he ((el_n ok).1 (lin_el ok _ _ _)) j, fun i hi => ?_⟩
  show F.add (v i) (F.mul c (nth (nthL A j) i)) = _
  rw [hval i hi, encTo_sum ok n A _ _ hi, encTo_sum ok n A _ _ hi]
  have e : F.sum (fun k => F.mul (nth (msg.set j (F.add (nth msg j) c)) k) (nth (nthL A k) i)) A.length = F.sum (fun k => F.add (F.mul (nth msg k) (nth (nthL A k) i)) (if k = j then F.mul c (nth (nthL A j) i) else 0)) A.length := sum_congr fun k hk => by
   by_cases h : k = j
   · subst h
     rw [nth_set_same (by omega), if_pos rfl, add_mul' ok]
   · rw [nth_set_ne (fun e => h e.symm), if_neg h, add_zero' ok (mul_el ok _ _)]
  rw [e, sum_add ok, sum_one ok (f := fun k => if k = j then F.mul c (nth (nthL A j) i) else 0) (l := j) hj (by rw [if_pos rfl]; exact mul_el ok _ _) (fun k _ hne => if_neg hne), if_pos rfl]
theorem sum_cut (ok : F.Ok) {f : Nat → Int} {s : Nat} : ∀ k, s ≤ k → (∀ j, s ≤ j → j < k → f j = 0) → F.sum f k = F.sum f s := by
 intro k
 induction k with
 | zero => intro h _; rw [Nat.le_zero.1 h]
 | succ k ih =>
  intro h hz
  rcases Nat.lt_or_eq_of_le h with h1 | h1
  · rw [FD.sum, ih (by omega) (fun j h2 h3 => hz j h2 (by omega)), hz k (by omega) (by omega), add_zero' ok (sum_el ok _ _)]
  · rw [h1]
theorem indep_rank (hG : F.Good) (hM : F.Mat n A) (h : ∀ msg : List Int, msg.length = A.length → (∀ c ∈ msg, 0 ≤ c ∧ c < F.n) → (∀ i, i < n → nth (encTo F n A msg A.length) i = 0) → ∀ x ∈ msg, x = 0) : (form F A n).length = A.length := by
 have ok := hG.ok
 obtain ⟨n2, _⟩ := ok.n_bd
 have key : ∀ t, t ≤ A.length → (form F (A.take t) n).length = t := by
  intro t
  induction t with
  | zero => intro _; rw [List.take_zero, form_nil]; rfl
  | succ t ih =>
   intro ht
   have ih := ih (by omega)
   have hMt : F.Mat n (A.take t) := fun x hx => hM x (List.mem_of_mem_take hx)
   have hv := Mat_nth hM (i := t) (by omega)
   have htl : (A.take t).length = t := by rw [List.length_take]; omega
   rw [take_nthL (show t < A.length by omega)]
   have hr := rank_iff hG hMt hv
   rw [ih] at hr
   obtain ⟨pa, _, hA, hsa⟩ := form_ech hG hMt
   obtain ⟨pb, _, hB, hsb⟩ := form_ech hG (Mat_snoc hMt hv)
   have hge := Ech.len_le ok hA hB fun v h => (hsb v).2 (((hsa v).1 h).snoc ok)
   rw [ih] at hge
   have hle : (form F (A.take t ++ [nthL A t]) n).length ≤ t + 1 := by
    rw [form_len]
    have := red_piv F (A.take t ++ [nthL A t]) n
    rw [List.length_append, List.length_singleton, htl] at this
    exact this
   by_cases heq : (form F (A.take t ++ [nthL A t]) n).length = t
   · exfalso
     obtain ⟨msg, hl, he, hval⟩ := sp_coef (n := n) ok (hr.1 heq)
     rw [htl] at hl hval
     obtain ⟨M, hMd⟩ : ∃ M : List Int, M = (List.range A.length).map fun j => if j < t then nth msg j else if j = t then F.sub 0 1 else 0 := ⟨_, rfl⟩
     have hMn : ∀ j, j < A.length → nth M j = if j < t then nth msg j else if j = t then F.sub 0 1 else 0 := fun j hj => by rw [hMd]; simp [nth, hj]
     have hz := h M (by rw [hMd]; simp) (fun c hc => by
      rw [hMd] at hc
      obtain ⟨j, _, rfl⟩ := List.mem_map.1 hc
      split
      · exact (el_n ok).1 (by
          rcases Nat.lt_or_ge j msg.length with h1 | h1
          · exact (el_n ok).2 (he _ (nth_mem h1))
          · rw [nth_big h1]; exact zero_el ok)
      · split
        · exact (el_n ok).1 (sub_el' ok _ _)
        · omega) (fun i hi => by
      rw [encTo_sum ok n A _ _ hi, sum_cut ok (s := t + 1) _ (by omega) (fun j h1 h2 => by rw [hMn j h2, if_neg (by omega), if_neg (by omega), zero_mul_all ok]), FD.sum, hMn t (by omega), if_neg (by omega), if_pos rfl]
      have e : F.sum (fun j => F.mul (nth M j) (nth (nthL A j) i)) t = nth (nthL A t) i := by
       rw [hval i hi, encTo_sum ok n _ _ _ hi]
       refine sum_congr fun j hj => ?_
       rw [hMn j (by omega), if_pos hj, show nthL (A.take t) j = nthL A j from by simp [nthL, List.getD_eq_getElem?_getD, List.getElem?_take, hj]]
      rw [e, add_neg_mul' ok, one_mul' ok (row_el ok hM t i), sub_self' ok])
     have h1 := hz (nth M t) (nth_mem (by rw [hMd]; simp; omega))
     rw [hMn t (by omega), if_neg (by omega), if_pos rfl] at h1
     have := eq_of_sub ok (zero_el ok) (one_el ok) h1
     omega
   · omega
 have := key A.length (Nat.le_refl _)
 rwa [List.take_length] at this
theorem cols_at (C : List (List Int)) {R k i : Nat} (hk : k < R) (hi : i < C.length) : nth (nthL (cols C R) k) i = nth (nthL C i) k := by
 rw [cols_nth C hk]
 simp [nth, nthL, hi]
theorem enc_cols (ok : F.Ok) (hCM : F.Mat R C) {msg : List Int} (hl : msg.length = R) {i : Nat} (hi : i < C.length) : nth (encTo F C.length (cols C R) msg R) i = lf F msg (nthL C i) := by
 rw [encTo_sum ok C.length _ _ _ hi, lf_sum ok R hl (Mat_nth hCM hi).1]
 exact sum_congr fun k hk => by rw [cols_at C hk hi]
theorem sim_wt (hG : F.Good) (hC : C = colsUp F.n R (F.n ^ R)) (hCM : F.Mat R C) (hR : 1 ≤ R) {msg : List Int} (hl : msg.length = R) (he : ∀ x ∈ msg, 0 ≤ x ∧ x < F.n) (hne : ∃ x ∈ msg, x ≠ 0) :
    wf (nth (encTo F C.length (cols C R) msg R)) C.length = F.n ^ (R - 1) := by
 have h := cols_lf hG hR hl he hne
 rw [← hC] at h
 rw [← h, wf]
 exact List.countP_congr fun i hi => by rw [enc_cols hG.ok hCM hl (List.mem_range.1 hi)]
theorem sim_rank (hG : F.Good) (hC : C = colsUp F.n R (F.n ^ R)) (hCM : F.Mat R C) (hR : 1 ≤ R) : (form F (cols C R) C.length).length = R := by
 have ok := hG.ok
 obtain ⟨n2, _⟩ := ok.n_bd
 have h := indep_rank hG (cols_Mat ok hCM) fun msg hl he hz x hx => by
  rw [cols_len] at hl hz
  refine Classical.byContradiction fun hne => ?_
  have h := sim_wt hG hC hCM hR hl he ⟨x, hx, hne⟩
  have h0 : wf (nth (encTo F C.length (cols C R) msg R)) C.length = 0 := by
   rw [wf, List.countP_eq_zero]
   intro i hi
   rw [hz i (List.mem_range.1 hi)]
   simp
  have hp : 0 < F.n ^ (R - 1) := Nat.pow_pos (by omega)
  omega
 rwa [cols_len] at h
theorem cnt_uniq {p : Nat → Bool} {j0 : Nat} : ∀ M, (∀ j, j < M → (p j = true ↔ j = j0)) → (List.range M).countP p = if j0 < M then 1 else 0 := by
 intro M
 induction M with
 | zero => intro _; rw [if_neg (by omega)]; rfl
 | succ M ih =>
  intro h
  rw [List.range_succ, List.countP_append, ih fun j hj => h j (by omega)]
  have hm := h M (by omega)
  by_cases e : M = j0
  · have : p M = true := hm.2 e
    rw [if_neg (by omega), if_pos (by omega)]
    simp [this]
  · have : p M = false := by
      rw [← Bool.not_eq_true]
      exact fun h2 => e (hm.1 h2)
    by_cases h3 : j0 < M
    · rw [if_pos h3, if_pos (by omega)]; simp [this]
    · rw [if_neg h3, if_neg (by omega)]; simp [this]
theorem sim_wts (hG : F.Good) (hC : C = colsUp F.n R (F.n ^ R)) (hCM : F.Mat R C) (hR : 1 ≤ R) (hn : F.n ^ (R - 1) ≤ C.length) (h : GC F C.length (form F (cols C R) C.length)) :
    nth (wts F C.length (form F (cols C R) C.length)) 0 = 1 ∧ nth (wts F C.length (form F (cols C R) C.length)) (F.n ^ (R - 1)) = (F.n : Int) * ((F.n ^ (R - 1) : Nat) : Int) - 1 := by
 have ok := hG.ok
 obtain ⟨n2, _⟩ := ok.n_bd
 have hrk := sim_rank hG hC hCM hR
 obtain ⟨_, _, _, hs⟩ := form_ech hG (cols_Mat ok hCM)
 generalize hA : form F (cols C R) C.length = A at *
 have hp : 0 < F.n ^ (R - 1) := Nat.pow_pos (by omega)
 have hz : Sp F A (nth (zeros C.length)) := by
  have e : nth (zeros C.length) = fun _ => 0 := by funext i; exact zeros_nth _ i
  rw [e]; exact .zero
 obtain ⟨j0, hj0, e0⟩ := h.sp_word (zeros_len _) hz
 have key : ∀ j, j < F.n ^ A.length → (wt (nthL (wordsTo F C.length A A.length) j) = 0 ∧ j = j0) ∨ (wt (nthL (wordsTo F C.length A A.length) j) = F.n ^ (R - 1) ∧ j ≠ j0) := fun j hj => by
  obtain ⟨h1, h2, h3⟩ := h.word_sp hj
  obtain ⟨msg, hl, he, hval⟩ := sp_coef (n := C.length) ok ((hs _).1 h3)
  rw [cols_len] at hl hval
  have hwf : wt (nthL (wordsTo F C.length A A.length) j) = wf (nth (encTo F C.length (cols C R) msg R)) C.length := by
   rw [wt_wf h1]
   exact List.countP_congr fun i hi => by rw [hval i (List.mem_range.1 hi)]
  by_cases hne : ∃ x ∈ msg, x ≠ 0
  · refine .inr ⟨by rw [hwf, sim_wt hG hC hCM hR hl he hne], fun e => ?_⟩
    have hw := sim_wt hG hC hCM hR hl he hne
    rw [← hwf, e, e0, wt_wf (zeros_len _)] at hw
    have : wf (nth (zeros C.length)) C.length = 0 := by
     rw [wf, List.countP_eq_zero]
     intro i _
     rw [zeros_nth]
     simp
    omega
  · have hz' : ∀ x ∈ msg, x = 0 := fun x hx => Classical.byContradiction fun h => hne ⟨x, hx, h⟩
    have hword : nthL (wordsTo F C.length A A.length) j = zeros C.length := eq_of_nth (by rw [h1, zeros_len]) fun i hi => by
     rw [h1] at hi
     rw [hval i hi, enc_cols ok hCM hl hi, lf_zero ok _ hz', zeros_nth]
    refine .inl ⟨?_, h.word_inj hj hj0 (by rw [hword, e0])⟩
    rw [hword, wt_wf (zeros_len _), wf, List.countP_eq_zero]
    intro i _
    rw [zeros_nth]
    simp
 have c0 : (List.range (F.n ^ A.length)).countP (fun j => wt (nthL (wordsTo F C.length A A.length) j) == 0) = 1 := by
  rw [cnt_uniq (j0 := j0) _ fun j hj => ?_, if_pos hj0]
  rw [beq_iff_eq]
  rcases key j hj with ⟨a, b⟩ | ⟨a, b⟩
  · exact ⟨fun _ => b, fun _ => a⟩
  · exact ⟨fun e => by omega, fun e => absurd e b⟩
 have c1 : (List.range (F.n ^ A.length)).countP (fun j => wt (nthL (wordsTo F C.length A A.length) j) == F.n ^ (R - 1)) + 1 = F.n ^ A.length := by
  have hc := List.length_eq_countP_add_countP (fun j => wt (nthL (wordsTo F C.length A A.length) j) == 0) (l := List.range (F.n ^ A.length))
  rw [List.length_range, c0] at hc
  have e : (List.range (F.n ^ A.length)).countP (fun j => wt (nthL (wordsTo F C.length A A.length) j) == F.n ^ (R - 1)) = (List.range (F.n ^ A.length)).countP (fun j => decide ¬ ((wt (nthL (wordsTo F C.length A A.length) j) == 0) = true)) := List.countP_congr fun j hj => by
   rw [decide_eq_true_eq, beq_iff_eq, beq_iff_eq]
   rcases key j (List.mem_range.1 hj) with ⟨a, b⟩ | ⟨a, b⟩
   · exact ⟨fun e => by omega, fun e => absurd a e⟩
   · exact ⟨fun e => by omega, fun _ => a⟩
  omega
 have hpow : F.n ^ A.length = F.n * F.n ^ (R - 1) := by
  rw [hrk]
  conv => lhs; rw [show R = R - 1 + 1 by omega]
  rw [Nat.pow_succ, Nat.mul_comm]
 rw [h.wts_count (Nat.zero_le _), h.wts_count hn]
 refine ⟨by rw [c0]; rfl, ?_⟩
 have : ((F.n * F.n ^ (R - 1) : Nat) : Int) = (F.n : Int) * ((F.n ^ (R - 1) : Nat) : Int) := Int.natCast_mul _ _
 omega
end
end Go.Proofs.Ytgmgpcaahanmiaa
namespace Go.Proofs.Ytgmgpcaahanmiaa
open Go.RowKit
section
variable {F : FD} {n R : Nat} {C A : List (List Int)}
theorem wf_apart (a b : List Int) (k : Nat) : wf (nth a) k ≤ wf (nth b) k + apartTo a b k := by
 induction k with
 | zero => exact Nat.zero_le _
 | succ k ih =>
  rw [wf, wf, List.range_succ, List.countP_append, List.countP_append, apartTo]
  rw [wf, wf] at ih
  by_cases e : nth a k = nth b k
  · rw [if_pos e]
    simp only [List.countP_cons, List.countP_nil, e]
    omega
  · rw [if_neg e]
    simp only [List.countP_cons, List.countP_nil]
    split <;> split <;> omega
theorem wf_ge2 {v : Nat → Int} {k i j : Nat} (hi : i < k) (hj : j < k) (hij : i ≠ j) (h1 : v i ≠ 0) (h2 : v j ≠ 0) : 2 ≤ wf v k := by
 have h := nodup_len (p := [i, j]) (q := (List.range k).filter fun i => v i != 0) (by simp [hij]) fun x hx => by
  rcases List.mem_cons.1 hx with h | h
  · subst h; exact List.mem_filter.2 ⟨List.mem_range.2 hi, by simpa using h1⟩
  · rw [List.mem_singleton] at h
    subst h; exact List.mem_filter.2 ⟨List.mem_range.2 hj, by simpa using h2⟩
 rwa [← List.countP_eq_length_filter] at h
theorem ham_sp (hG : F.Good) (hCM : F.Mat R C) {v : List Int} (hl : v.length = C.length) (he : ∀ x ∈ v, 0 ≤ x ∧ x < F.n) :
    Sp F (nul F (cols C R) C.length) (nth v) ↔ ∀ k, k < R → nth (encTo F R C v C.length) k = 0 := by
 have ok := hG.ok
 rw [(nul_spec hG (cols_Mat ok hCM)).1 _ (nth_el' ok he) fun i hi => nth_big (by omega)]
 have key : ∀ k, k < R → dt F C.length (nth (nthL (cols C R) k)) (nth v) = nth (encTo F R C v C.length) k := fun k hk => by
  rw [encTo_sum ok R C _ _ hk]
  exact sum_congr fun j hj => by rw [cols_at C hk hj, mul_comm' ok]
 refine ⟨fun h k hk => by rw [← key k hk]; exact h k (by rw [cols_len]; exact hk), fun h k hk => ?_⟩
 rw [cols_len] at hk
 rw [key k hk]
 exact h k hk
theorem ham_low (hG : F.Good) (hC : C = colsUp F.n R (F.n ^ R)) (hCM : F.Mat R C) {v : List Int} (hl : v.length = C.length) (he : ∀ x ∈ v, 0 ≤ x ∧ x < F.n)
    (hz : ∀ k, k < R → nth (encTo F R C v C.length) k = 0) (h1 : 1 ≤ wf (nth v) C.length) : 3 ≤ wf (nth v) C.length := by
 have ok := hG.ok
 obtain ⟨n2, _⟩ := ok.n_bd
 have hlead : ∀ i, i < C.length → lead (nthL C i) = 1 := fun i hi => by
  have hm := nthL_mem hi
  rw [hC] at hm
  obtain ⟨j, _, h2, h3⟩ := colsUp_mem hm
  rw [hC]; exact h3
 have hsum : ∀ k, k < R → F.sum (fun i => F.mul (nth v i) (nth (nthL C i) k)) C.length = 0 := fun k hk => by rw [← encTo_sum ok R C _ _ hk]; exact hz k hk
 rcases Nat.lt_or_ge (wf (nth v) C.length) 3 with hlt | hge
 · exfalso
   have hlen : ((List.range C.length).filter fun i => nth v i != 0).length = wf (nth v) C.length := (List.countP_eq_length_filter ..).symm
   have hnd : ((List.range C.length).filter fun i => nth v i != 0).Nodup := List.Pairwise.filter _ List.nodup_range
   have hmem : ∀ i, i ∈ ((List.range C.length).filter fun i => nth v i != 0) ↔ i < C.length ∧ nth v i ≠ 0 := fun i => by
    rw [List.mem_filter, List.mem_range, bne_iff_ne]
   generalize (List.range C.length).filter (fun i => nth v i != 0) = Z at hlen hnd hmem
   obtain ⟨i, hi⟩ := List.length_pos_iff_exists_mem.1 (show 0 < Z.length by omega)
   obtain ⟨hil, hvi⟩ := (hmem i).1 hi
   have hvie := (el_n ok).1 (nth_el' ok he i)
   have hcm := Mat_nth hCM hil
   rcases Nat.lt_or_ge Z.length 2 with hZ | hZ
   · have hall : ∀ j, j < C.length → j ≠ i → nth v j = 0 := fun j hj hne => Classical.byContradiction fun h => by
       have h2 := nodup_len (p := [i, j]) (q := Z) (by simp; exact fun e => hne e.symm) fun x hx => by
        rcases List.mem_cons.1 hx with h | h
        · rw [h]; exact hi
        · rw [List.mem_singleton.1 h]; exact (hmem j).2 ⟨hj, by assumption⟩
       simp at h2
       omega
     have h0 : lead (nthL C i) = 0 := lead_of_zero fun y hy => by
      obtain ⟨k, hk, rfl⟩ := List.getElem_of_mem hy
      have hkR : k < R := by omega
      have hs := hsum k hkR
      rw [sum_one ok (l := i) hil (mul_el ok _ _) (fun j hj hne => by rw [hall j hj hne, zero_mul_all ok])] at hs
      rcases no_div hG (nth_el' ok he i) (row_el ok hCM i k) hs with h | h
      · exact absurd h hvi
      · rwa [nth_lt hk] at h
     rw [hlead i hil] at h0
     omega
   · obtain ⟨j, hj, hij⟩ : ∃ j, j ∈ Z ∧ j ≠ i := by
       refine Classical.byContradiction fun h => ?_
       have h2 := nodup_len (p := Z) (q := [i]) hnd fun x hx => by
        refine List.mem_singleton.2 (Classical.byContradiction fun hne => h ⟨x, hx, hne⟩)
       simp at h2
       omega
     obtain ⟨hjl, hvj⟩ := (hmem j).1 hj
     have hvje := (el_n ok).1 (nth_el' ok he j)
     have hall : ∀ t, t < C.length → t ≠ i → t ≠ j → nth v t = 0 := fun t ht h1 h2 => Classical.byContradiction fun h => by
      have h3 := nodup_len (p := [t, i, j]) (q := Z) (by simp [h1, h2]; exact fun e => hij e.symm) fun x hx => by
       rcases List.mem_cons.1 hx with h | hx
       · rw [h]; exact (hmem t).2 ⟨ht, by assumption⟩
       · rcases List.mem_cons.1 hx with h | hx
         · rw [h]; exact hi
         · rw [List.mem_singleton.1 hx]; exact hj
      simp at h3
      omega
     have hneg := (el_n ok).1 (sub_el' ok 0 (nth v j))
     have hneg0 : F.sub 0 (nth v j) ≠ 0 := fun e => hvj (eq_of_sub ok (zero_el ok) (nth_el' ok he j) e).symm
     have hsc : scale F (F.sub 0 (nth v j)) (nthL C j) = scale F (nth v i) (nthL C i) := eq_of_nth (by rw [scale_len, scale_len, hcm.1, (Mat_nth hCM hjl).1]) fun k hk => by
      rw [scale_len, (Mat_nth hCM hjl).1] at hk
      have hs := hsum k hk
      rw [sum_two ok (a := i) (b := j) hil hjl (fun e => hij e.symm) (fun _ => mul_el ok _ _) (fun t ht h1 h2 => by rw [hall t ht h1 h2, zero_mul_all ok])] at hs
      rw [scale_nth_all ok, scale_nth_all ok]
      have e1 := add_neg_mul' ok 0 (nth v j) (nth (nthL C j) k)
      rw [zero_add' ok (mul_el ok _ _)] at e1
      rw [e1]
      rw [add_comm' ok] at hs
      exact ((add_eq ok (a := F.mul (nth v j) (nth (nthL C j) k)) (y := F.mul (nth v i) (nth (nthL C i) k)) (b := 0) (mul_el ok _ _) (zero_el ok)).1 hs).symm
     have hle := lead_scale hG (x := nth v i) (by omega) hvie.2 hcm.2
     rw [hlead i hil, mul_comm' ok, one_mul' ok (nth_el' ok he i)] at hle
     have hel : ∀ y ∈ scale F (nth v i) (nthL C i), 0 ≤ y ∧ y < F.n := fun y hy => by
      rw [scale, List.mem_map] at hy
      obtain ⟨x, _, rfl⟩ := hy
      exact mul_bd ok _ _
     obtain ⟨p, _, _, _, h4⟩ := cor_place hG (r := R) (S := scale F (nth v i) (nthL C i)) (by rw [scale_len, hcm.1]) hel (by rw [hle]; exact hvi)
     rw [← hC] at h4
     have e1 := (h4 i hil (nth v i) (by omega) hvie.2).1 rfl
     have e2 := (h4 j hjl (F.sub 0 (nth v j)) (by omega) hneg.2).1 hsc
     exact hij (e2.1.trans e1.1.symm)
 · exact hge
theorem zeros_el (q : Nat) (hq : 0 < q) (k : Nat) : ∀ x ∈ zeros k, 0 ≤ x ∧ x < (q : Int) := fun x hx => by
 rw [zeros, List.mem_replicate] at hx
 omega
theorem ham_dist (hG : F.Good) (hC : C = colsUp F.n R (F.n ^ R)) (hCM : F.Mat R C) (h3 : 3 ≤ C.length) (h : GC F C.length (nul F (cols C R) C.length)) : distC F C.length (nul F (cols C R) C.length) = 3 := by
 have ok := hG.ok
 obtain ⟨n2, _⟩ := ok.n_bd
 have hd := h.dist
 obtain ⟨⟨v, hvl, hvs, hvw⟩, hmin⟩ := h.dist_spec
 have hve := sp_mem ok hvs
 have hlow := ham_low hG hC hCM hvl hve ((ham_sp hG hCM hvl hve).1 hvs) (by rw [← wt_wf hvl, hvw]; exact hd.1)
 rw [← wt_wf hvl, hvw] at hlow
 obtain ⟨word, hw⟩ : ∃ word, word = ((zeros C.length).set 0 1).set 1 1 := ⟨_, rfl⟩
 have hwl : word.length = C.length := by rw [hw, List.length_set, List.length_set, zeros_len]
 have hwe : ∀ x ∈ word, 0 ≤ x ∧ x < (F.n : Int) := by
  rw [hw]
  exact set_bd (set_bd (zeros_el F.n (by omega) _) (by omega) _) (by omega) _
 have hw2 : 2 ≤ wf (nth word) C.length := wf_ge2 (i := 0) (j := 1) (by omega) (by omega) (by omega)
  (by rw [hw, nth_set_ne (by omega), nth_set_same (by rw [zeros_len]; omega)]; omega) (by rw [hw, nth_set_same (by rw [List.length_set, zeros_len]; omega)]; omega)
 have hw3 : wf (nth word) C.length ≤ 2 := by
  have a1 := wf_apart word (zeros C.length) C.length
  have a2 := apart_set (a := zeros C.length) (b := zeros C.length) 0 1 C.length
  have a3 := apart_set (a := zeros C.length) (b := (zeros C.length).set 0 1) 1 1 C.length
  rw [apart_self (a := zeros C.length) (b := zeros C.length) fun i _ => rfl] at a2
  rw [← hw, apartTo_comm] at a3
  have h0 : wf (nth (zeros C.length)) C.length = 0 := by
   rw [wf, List.countP_eq_zero]
   intro i _
   rw [zeros_nth]
   simp
  omega
 obtain ⟨c1, c2, c3, c4⟩ := corr_spec hG hC hCM hwl hwe
 have hxl : (corr F R C word).length = C.length := by rw [c1, hwl]
 have hxs := (ham_sp hG hCM hxl c3).2 c4
 rw [hwl] at c2
 have b1 := wf_apart (corr F R C word) word C.length
 have b2 := wf_apart word (corr F R C word) C.length
 rw [apartTo_comm] at b2
 have hm := hmin _ hxl hxs (by rw [wt_wf hxl]; omega)
 rw [wt_wf hxl] at hm
 omega
theorem many_pow1 (q : Nat) (hq : 1 ≤ q) : ∀ R, (q - 1) * many q R + 1 = q ^ R := by
 intro R
 induction R with
 | zero => simp [many]
 | succ R ih =>
  rw [many_pow, Nat.mul_add, Nat.pow_succ]
  obtain ⟨k, rfl⟩ : ∃ k, q = k + 1 := ⟨q - 1, by omega⟩
  rw [Nat.add_sub_cancel] at ih ⊢
  rw [Nat.mul_succ]
  have : k * (k + 1) ^ R = (k + 1) ^ R * k := Nat.mul_comm _ _
  omega
theorem bin_one (n : Nat) : bin n 1 = n := by
 induction n with
 | zero => exact bin_big (by omega)
 | succ n ih => rw [bin_succ, bin_zero, ih, Nat.add_comm]
theorem nul_form (hG : F.Good) {H : List (List Int)} (hH : F.Mat n H) : nul F (form F H n) n = nul F H n := by
 obtain ⟨pv, hpv, hE, _⟩ := form_ech hG hH
 have h := form_fix hG hE
 rw [nul, nul, nulB, nulB, h.1, h.2, hpv]
theorem ham_perf (hG : F.Good) (hC : C = colsUp F.n R (F.n ^ R)) (hCM : F.Mat R C) (hR : 1 ≤ R) (h3 : 3 ≤ C.length) (h32 : C.length ≤ 32) (h : GC F C.length (nul F (cols C R) C.length)) : perfV F C.length (nul F (cols C R) C.length) = (true, 0) := by
 have ok := hG.ok
 obtain ⟨n2, n64⟩ := ok.n_bd
 have hd := ham_dist hG hC hCM h3 h
 have hrk := sim_rank hG hC hCM hR
 have hlen := (nul_spec hG (cols_Mat ok hCM)).2
 rw [hrk] at hlen
 have hCl : C.length = many F.n R := by
  have := colsUp_len (q := F.n) (by omega) R
  rw [← hC] at this
  exact this
 have hpow := many_pow1 F.n (by omega) R
 rw [← hCl] at hpow
 obtain ⟨N, hN⟩ : ∃ N, N = nul F (cols C R) C.length := ⟨_, rfl⟩
 rw [← hN] at h hd hlen ⊢
 have hcap := h.cap_eq.2
 have hq : F.n ^ C.length = F.n ^ N.length * F.n ^ R := by rw [← Nat.pow_add, hlen]
 have hqR : F.n ^ R ≤ 2017 := by
  have : (F.n - 1) * C.length ≤ 63 * 32 := Nat.mul_le_mul (by omega) h32
  omega
 have hb : F.n ^ C.length ≤ 4096 * 2017 := by rw [hq]; exact Nat.mul_le_mul hcap hqR
 have hL : capTo F.n LIM C.length ≤ LIM := by
  have hb' : (F.n : Int) ^ C.length ≤ LIM := by
   rw [← Int.natCast_pow]
   unfold LIM
   omega
  rw [capTo_pow (by omega) _ hb']
  exact hb'
 rw [perfV, if_pos hL, hd]
 have hball : ballV F.n C.length ((3 - 1) / 2) = ((F.n ^ R : Nat) : Int) := by
  show ballV F.n C.length 1 = _
  rw [ballV]
  show (0 + ballT F.n C.length 0) + ballT F.n C.length 1 = _
  rw [ballT, ballT, chooseV_bin h32 (Nat.zero_le _), chooseV_bin h32 (by omega), bin_zero, bin_one, Int.pow_zero, Int.pow_one, ← hpow]
  have : (((F.n - 1) * C.length : Nat) : Int) = (C.length : Int) * ((F.n : Int) - 1) := by
   rw [Int.natCast_mul, Int.mul_comm, Int.natCast_sub (by omega)]
   rfl
  omega
 have e : (((F.n ^ N.length : Nat) : Int) * ballV F.n C.length ((3 - 1) / 2) == (F.n : Int) ^ C.length) = true := by
  rw [beq_iff_eq, hball, ← Int.natCast_mul, ← hq, Int.natCast_pow]
 rw [e]
end
structure HamOk (F : FD) (R n : Nat) (A N : List (List Int)) (q r : Int) : Prop where
 good : F.Good
 hq : q = F.n
 hr : r = R
 r2 : 2 ≤ R
 r4 : R ≤ 4
 n3 : 3 ≤ n
 n32 : n ≤ 32
 heavy : F.n ^ (R - 1) ≤ n
 sim : simRes q r = mkC F A
 ham : hamRes q r = mkC F N
 simOk : (mkC F A).2.2.2.2 = 0 → mkC F A = (F.p, (F.k : Int), F.poly, A, 0) ∧ A.length = R ∧ wtsRes F.p F.k F.poly A = (wts F n A, 0) ∧ (wts F n A).length = n + 1 ∧ nth (wts F n A) 0 = 1 ∧ nth (wts F n A) (F.n ^ (R - 1)) = (F.n : Int) * ((F.n ^ (R - 1) : Nat) : Int) - 1
 hamOk : (mkC F N).2.2.2.2 = 0 → mkC F N = (F.p, (F.k : Int), F.poly, N, 0) ∧ distRes F.p F.k F.poly N = (3, 0) ∧ perfRes F.p F.k F.poly N = (true, 0) ∧ dualRes F.p F.k F.poly N = mkC F A
theorem ham_law {q r : Int} (hk : (isField q && colsOk q r) = true) : ∃ (F : FD) (R n : Nat) (A N : List (List Int)), HamOk F R n A N q r := by
 obtain ⟨F, R, hG, hF, hq, rfl, hR2, hR4, hC, hCM, hC3, hC32, _⟩ := cor_facts hk
 have ok := hG.ok
 obtain ⟨n2, _⟩ := ok.n_bd
 have hsim : simRes q R = mkC F (form F (cols (hcols q R) R) (hcols q R).length) := by rw [simRes, if_pos hk, hF, Int.toNat_natCast]
 have hham : hamRes q R = mkC F (nul F (cols (hcols q R) R) (hcols q R).length) := by rw [hamRes, if_pos hk, hF, Int.toNat_natCast]
 generalize hcols q (R : Int) = C at *
 have hHM := cols_Mat ok hCM
 have hCl : C.length = many F.n R := by
  have := colsUp_len (q := F.n) (by omega) R
  rw [← hC] at this
  exact this
 have hheavy : F.n ^ (R - 1) ≤ C.length := by
  have := pow_le_many F.n (R - 1)
  rw [show R - 1 + 1 = R by omega] at this
  omega
 refine ⟨F, R, C.length, _, _, hG, hq, rfl, hR2, hR4, hC3, hC32, hheavy, hsim, hham, fun hs => ?_, fun hh => ?_⟩
 · obtain ⟨hGC, hm⟩ := mkC_gc hG hHM (by omega) hC32 hs
   have hw := sim_wts hG hC hCM (by omega) hheavy hGC
   refine ⟨hm, sim_rank hG hC hCM (by omega), ?_, wts_len _ _ _, hw.1, hw.2⟩
   rw [wtsRes, if_pos hGC.okC, fdR_eq, hGC.hn]
 · have hN : F.Mat C.length (nulB F (cols C R) C.length) := nulTo_Mat ok _ _ _ _
   obtain ⟨hGC, hm⟩ := mkC_gc hG hN (by omega) hC32 hh
   have hGC : GC F C.length (nul F (cols C R) C.length) := hGC
   obtain ⟨_, _, hE, _⟩ := form_ech hG hHM
   refine ⟨hm, ?_, ?_, ?_⟩
   · rw [dist_res hGC, ham_dist hG hC hCM hC3 hGC]; rfl
   · rw [perfRes, if_pos hGC.okC, fdR_eq, hGC.hn, ham_perf hG hC hCM (by omega) hC3 hC32 hGC]
   · rw [dual_res hGC, ← nul_form hG hHM, nul_nul hG hE]
theorem ham_none {q r : Int} (hk : (isField q && colsOk q r) = false) : simRes q r = (0, 0, [], [], 2) ∧ hamRes q r = (0, 0, [], [], 2) := by
 rw [simRes, hamRes, hk]
 exact ⟨rfl, rfl⟩
end Go.Proofs.Ytgmgpcaahanmiaa
