/-
  Texts joined.
-/
import Derived.Test.YtgmgpcaahanmiaaY5
set_option linter.unusedVariables false
set_option linter.unusedSimpArgs false
set_option maxRecDepth 100000
set_option maxHeartbeats 40000000
namespace Go.Proofs.Ytgmgpcaahanmiaa
open Go.RowKit
def apartTo (a b : List Int) : Nat → Nat
 | 0 => 0
 | k + 1 => if nth a k = nth b k then apartTo a b k else apartTo a b k + 1
theorem apartTo_le (a b : List Int) (k : Nat) : apartTo a b k ≤ k := by
 induction k with
 | zero => exact Nat.le_refl _
 | succ k ih => rw [apartTo]; split <;> omega
section
variable {F : FD}
theorem valF_zip (ok : F.Ok) (x : Int) : ∀ p q : List Int, p.length = q.length → valF F x (List.zipWith F.sub p q) = F.sub (valF F x p) (valF F x q)
 | [], [], _ => by show (0 : Int) = F.sub 0 0; rw [sub_self' ok]
 | c :: cs, d :: ds, h => by
  have ih := valF_zip ok x cs ds (by simpa using h)
  rw [List.zipWith_cons_cons, valF_cons, ih, valF_cons, valF_cons, sub_mul' ok]
  exact lin_eq ok (lin_el ok _ _ _) (lin_el ok _ _ _) (fun i hi => D_lin2 ok hi (D_lin ok _ _ _ hi) (D_lin ok _ _ _ hi)) (fun i hi => D_lin2 ok hi (D_lin ok _ _ _ hi) (D_lin ok _ _ _ hi)) fun i => by omega
 | [], _ :: _, h => by simp at h
 | _ :: _, [], h => by simp at h
def agree (a b : List Int) (k : Nat) : List Nat := (List.range k).filter fun i => nth a i == nth b i
theorem agree_len (a b w : List Int) (k : Nat) : k ≤ (agree a b k).length + apartTo a w k + apartTo b w k := by
 induction k with
 | zero => simp
 | succ k ih =>
  have e : agree a b (k + 1) = agree a b k ++ (if nth a k == nth b k then [k] else []) := by
   rw [agree, List.range_succ, List.filter_append]
   congr 1
   simp only [List.filter_cons, List.filter_nil]
  rw [e, List.length_append, apartTo, apartTo]
  by_cases h : nth a k = nth b k
  · rw [if_pos (by simpa using h)]
    simp only [List.length_singleton]
    split <;> split <;> omega
  · rw [if_neg (by simpa using h)]
    simp only [List.length_nil]
    split
    · rw [if_neg (by omega)]; omega
    · split <;> omega
theorem vals_nth (F : FD) (msg : List Int) {n i : Nat} (h : i < n) : nth (vals F msg n) i = valF F i msg := by simp [vals, nth, h]
theorem vals_unique (hG : F.Good) {K N : Nat} (hN : N ≤ F.n) (hKN : K ≤ N) {m1 m2 w : List Int} (l1 : m1.length = K) (l2 : m2.length = K) (e1 : ∀ c ∈ m1, F.el c) (e2 : ∀ c ∈ m2, F.el c)
    (h1 : 2 * apartTo (vals F m1 N) w N ≤ N - K) (h2 : 2 * apartTo (vals F m2 N) w N ≤ N - K) : m1 = m2 := by
 have ok := hG.ok
 have hz := roots hG K (List.zipWith F.sub m1 m2) (by rw [List.length_zipWith]; omega) (fun c hc => by
     obtain ⟨i, hi, rfl⟩ := List.getElem_of_mem hc
     rw [List.getElem_zipWith]
     exact lin_el ok _ _ _)
  ((agree (vals F m1 N) (vals F m2 N) N).map fun (i : Nat) => (i : Int)) (by
   refine List.Pairwise.map _ (fun a b h e => h (by exact_mod_cast e)) (List.Pairwise.filter _ List.nodup_range)) (fun r hr => by
   obtain ⟨i, hi, rfl⟩ := List.mem_map.1 hr
   obtain ⟨hi1, hi2⟩ := List.mem_filter.1 hi
   rw [List.mem_range] at hi1
   have hi2 : nth (vals F m1 N) i = nth (vals F m2 N) i := by simpa using hi2
   rw [vals_nth F _ hi1, vals_nth F _ hi1] at hi2
   refine ⟨(el_n ok).2 ⟨by omega, by omega⟩, ?_⟩
   rw [valF_zip ok _ _ _ (by omega), hi2, sub_self' ok])
  (by rw [List.length_map]; have := agree_len (vals F m1 N) (vals F m2 N) w N; omega)
 refine List.ext_getElem (by omega) fun i hi1 hi2 => ?_
 have h := hz (F.sub m1[i] m2[i]) (by
  have : (List.zipWith F.sub m1 m2)[i]'(by rw [List.length_zipWith]; omega) = F.sub m1[i] m2[i] := List.getElem_zipWith
  rw [← this]
  exact List.getElem_mem _)
 exact eq_of_sub ok (e1 _ (List.getElem_mem _)) (e2 _ (List.getElem_mem _)) h
end
end Go.Proofs.Ytgmgpcaahanmiaa
