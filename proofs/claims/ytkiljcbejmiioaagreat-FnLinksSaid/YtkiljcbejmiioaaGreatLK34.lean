/-
  Texts joined.
-/
import Derived.Test.YtkiljcbejmiioaaGreatLK7
import Derived.Test.YtkiljcbejmiioaaGreatLK16
import Derived.Test.YtkiljcbejmiioaaGreatLK22
import Derived.Test.YtkiljcbejmiioaaGreatLK23
import Derived.Test.YtkiljcbejmiioaaGreatLK24
import Derived.Test.YtkiljcbejmiioaaGreatLK33
set_option linter.unusedVariables false
set_option linter.unusedSimpArgs false
set_option maxRecDepth 100000
set_option maxHeartbeats 40000000
namespace Go.Proofs.YtkiljcbejmiioaaGreat
open Go.RowKit
section
variable {F : FD} {n : Nat} {m : List (List Int)}
theorem dotF_dtL {xs ys : List Int} (h : xs.length = n) : dotF F xs ys = dt F n (nth xs) (nth ys) := by rw [dotF, h]; rfl
theorem rowsD_at {n : Nat} {bss : List (List Int)} {i : Nat} (hi : i < bss.length) : nthL (rowsD n bss) i = rowB n (nthL bss i) := by
 rw [nthL_lt (by rw [rowsD_len]; exact hi), nthL_lt hi]
 simp [rowsD]
theorem lnk_rank {q : Int} {bss : List (List Int)} (hG : F.Good) (hD : okD q bss = true) : rdRes F.p F.k F.poly q bss = (((form F (rowsD q.toNat bss) q.toNat).length : Int), 0) := by
 rw [rdRes, if_pos (by rw [hG.okF, hD]; rfl), fdR_eq]
theorem lnk_code {q : Int} {bss : List (List Int)} (hG : F.Good) (hD : okD q bss = true) : cdRes F.p F.k F.poly q bss = mkC F (form F (rowsD q.toNat bss) q.toNat) := by
 rw [cdRes, if_pos (by rw [hG.okF, hD]; rfl), fdR_eq]
theorem lnk_has {q : Int} {bss : List (List Int)} (hG : F.Good) (hD : okD q bss = true) (h0 : (mkC F (form F (rowsD q.toNat bss) q.toNat)).2.2.2.2 = 0) :
    mkC F (form F (rowsD q.toNat bss) q.toNat) = (F.p, (F.k : Int), F.poly, form F (rowsD q.toNat bss) q.toNat, 0) ∧ ∀ i, i < bss.length → hasRes F.p F.k F.poly (form F (rowsD q.toNat bss) q.toNat) (rowB q.toNat (nthL bss i)) = true := by
 obtain ⟨⟨h1, h2⟩, _, _⟩ := okD_facts hD
 have hM := rowsD_Mat hG.ok q.toNat bss
 obtain ⟨hC, he⟩ := mkC_gc hG hM (by omega) (by omega) h0
 refine ⟨he, fun i hi => ?_⟩
 have ok := hG.ok
 have hi' : i < (rowsD q.toNat bss).length := by rw [rowsD_len]; exact hi
 have hs := Sp.row ok hM hi'
 have hr := Mat_nth hM hi'
 rw [rowsD_at hi] at hs hr
 obtain ⟨pv, _, _, sE⟩ := form_ech hG hM
 rw [hasRes, hC.okC, fdR_eq, hC.hn, Bool.true_and, hasV_iff hC]
 exact ⟨hr.1, hr.2, (sE _).2 hs⟩
theorem lnk_des {q : Int} {bss : List (List Int)} (hG : F.Good) (hD : okD q bss = true) : ∃ (r : Nat) (rp rd : Int) (rx : List Int) (ry : List (List Int)) (B : Int), rdRes F.p F.k F.poly q bss = ((r : Int), 0) ∧ cdRes F.p F.k F.poly q bss = (rp, rd, rx, ry, B) ∧ (B = 0 → ry.length = r ∧ ∀ i, i < bss.length → hasRes rp rd rx ry (rowB q.toNat (nthL bss i)) = true) := by
 have hc := lnk_code hG hD
 have hh := lnk_has (bss := bss) hG hD
 generalize mkC F (form F (rowsD q.toNat bss) q.toNat) = R at hc hh
 obtain ⟨rp, rd, rx, ry, B⟩ := R
 refine ⟨_, rp, rd, rx, ry, B, lnk_rank hG hD, hc, fun h0 => ?_⟩
 obtain ⟨h1, h2⟩ := hh h0
 injection h1 with e1 h1
 injection h1 with e2 h1
 injection h1 with e3 h1
 injection h1 with e4 h1
 subst e1 e2 e3 e4
 exact ⟨rfl, h2⟩
theorem suppTo_wtL (xs : List Int) : ∀ k, (suppTo xs k).length = wtTo xs k
 | 0 => rfl
 | k + 1 => by
  rw [wtTo]
  by_cases e : nth xs k = 0
  · rw [if_pos e, suppTo_miss (by rw [e]; rfl), suppTo_wtL xs k]
  · rw [if_neg e, suppTo_hit (by rw [bne_iff_ne]; exact e), List.length_append, suppTo_wtL xs k]; rfl
theorem lnk_supp (h : GC F n m) : supW F n m (distC F n m : Int) ≠ [] ∧ (supW F n m (distC F n m : Int)).Pairwise LtL ∧ ∀ x ∈ supW F n m (distC F n m : Int), x.length = distC F n m := by
 refine ⟨fun e => ?_, distL_strict _, fun x hx => ?_⟩
 · obtain ⟨v, hv, hs, hw⟩ := h.dist_spec.1
   obtain ⟨j, hj, ej⟩ := h.sp_word hv hs
   have hm : v ∈ wordsTo F n m m.length := by
    rw [← ej]
    exact nthL_mem (by rw [wordsTo_len]; exact hj)
   have : suppTo v v.length ∈ supW F n m (distC F n m : Int) := by
    rw [supW, distL_mem, supps, List.mem_map]
    exact ⟨v, List.mem_filter.2 ⟨hm, by rw [hw]; simp⟩, rfl⟩
   rw [e] at this
   exact absurd this List.not_mem_nil
 · rw [supW, distL_mem, supps, List.mem_map] at hx
   obtain ⟨v, hv, rfl⟩ := hx
   have hw := (List.mem_filter.1 hv).2
   rw [decide_eq_true_eq] at hw
   rw [suppTo_wtL]
   exact Int.ofNat_inj.1 hw
theorem lnk_sup (h : GC F n m) : spRes F.p F.k F.poly m (distC F n m : Int) = (supW F n m (distC F n m : Int), 0) := by
 obtain ⟨h1, h2⟩ := h.dist
 rw [spRes, if_pos h.okC, h.hn, if_pos (inB_yes (by omega) (by omega)), fdR_eq]
theorem sum_ones (ok : F.Ok) (u : Nat → Int) (hu : ∀ i, F.el (u i)) (k : Nat) : dt F k u (fun _ => 1) = F.sum u k := sum_congr fun j _ => by rw [mul_comm' ok, one_mul' ok (hu j)]
theorem GC.ext (h : GC F n m) (hn : n ≤ 31) : GC F (n + 1) (extM F m) := by
 have ok := h.good.ok
 have hm1 := h.m1
 obtain ⟨e1, e2⟩ := h.ext_fix
 have hM := extM_Mat ok h.mat
 refine ⟨h.good, by rw [extM_len]; exact h.m1, by rw [extM_len]; exact h.m8, by omega, by omega, (Mat_nth hM (by rw [extM_len]; omega)).1, hM, by rw [extM_len]; exact h.cap, e1⟩
theorem lnk_ext (h : GC F n m) (hn : n ≤ 31) : extRes F.p F.k F.poly m = (F.p, (F.k : Int), F.poly, extM F m, 0) := by
 rw [extRes, if_pos h.okC, fdR_eq, h.hn, extV, if_neg (by omega)]
theorem ext_or (h : GC F n m) : Or F (n + 1) (extM F m) (fun _ => 1) := fun j hj => by
 have ok := h.good.ok
 rw [extM_len] at hj
 have hr := Mat_nth h.mat hj
 have hM := extM_Mat ok h.mat
 rw [sum_ones ok _ (fun i => row_el ok hM j i), extM_nth F m hj]
 show F.add (F.sum (nth (extRow F (nthL m j))) n) (nth (extRow F (nthL m j)) n) = 0
 have e1 : F.sum (nth (extRow F (nthL m j))) n = sumR F (nthL m j) n := sum_congr fun i hi => extRow_lt F _ (by rw [hr.1]; exact hi)
 have e2 : nth (extRow F (nthL m j)) n = extE F (nthL m j) := by
  rw [nth, extRow, List.getD_eq_getElem?_getD, List.getElem?_append_right (by omega), hr.1, Nat.sub_self]; rfl
 rw [e1, e2, extE, hr.1]
 exact add_neg' ok (sum_el ok _ _)
theorem lnk_sum (h : GC F n m) {v : List Int} (hv : v ∈ wordsTo F (n + 1) (extM F m) (extM F m).length) : v.length = n + 1 ∧ (∀ x ∈ v, 0 ≤ x ∧ x < F.n) ∧ F.sum (nth v) (n + 1) = 0 := by
 have ok := h.good.ok
 obtain ⟨n2, _⟩ := ok.n_bd
 obtain ⟨j, hj, rfl⟩ := List.getElem_of_mem hv
 rw [← nthL_lt hj]
 rw [wordsTo_len] at hj
 rw [wordsTo_nth F _ _ hj]
 have hM := extM_Mat ok h.mat
 have hs := encTo_sp ok hM (hig_el j (by omega) (extM F m).length) (Nat.le_refl _)
 refine ⟨encTo_len _ _ _ _ _, encTo_el ok _ _ _ _, ?_⟩
 rw [← sum_ones ok _ (fun i => hs.el ok i)]
 exact (ext_or h).sp ok hs
theorem lnk_words (h : GC F n m) (hn : n ≤ 31) : woRes F.p F.k F.poly (extM F m) = wordsTo F (n + 1) (extM F m) (extM F m).length := by
 rw [woRes, if_pos (h.ext hn).okC, fdR_eq, (h.ext hn).hn]
def encF (F : FD) (m : List (List Int)) (v : Nat → Int) (i : Nat) : Int := dt F m.length v (fun k => nth (nthL m k) i)
theorem encF_nth (ok : F.Ok) (h : F.Mat n m) (msg : List Int) : nth (encTo F n m msg m.length) = encF F m (nth msg) := by
 funext i
 rcases Nat.lt_or_ge i n with hi | hi
 · rw [encTo_sum ok n m msg _ hi]; rfl
 · rw [nth_big (by rw [encTo_len]; exact hi), encF, dt]
   exact (sum_zero ok fun j hj => by rw [nth_big (xs := nthL m j) (by rw [(Mat_nth h hj).1]; exact hi), mul_zero_all ok]).symm
theorem hullW_at {i : Nat} (hi : i < (hullW F n m).length) : ∃ j, j < (nul F (gram F m) m.length).length ∧ nthL (hullW F n m) i = encTo F n m (nthL (nul F (gram F m) m.length) j) m.length := by
 have hl : (hullW F n m).length = (nul F (gram F m) m.length).length := encsTo_len F n m _ (Nat.le_refl _)
 refine ⟨i, by omega, ?_⟩
 rw [nthL_lt hi, nthL_lt (by omega)]
 simp [hullW, encsTo]
theorem gram_at {j k : Nat} (hj : j < m.length) (hk : k < m.length) : nth (nthL (gram F m) j) k = dotF F (nthL m j) (nthL m k) := by
 rw [nthL_lt (by rw [gram_len]; exact hj), nthL_lt hj, nthL_lt hk]
 simp [gram, nth, hk]
theorem swap_sum (ok : F.Ok) (f : Nat → Nat → Int) (a : Nat) : ∀ b, F.sum (fun i => F.sum (fun j => f i j) b) a = F.sum (fun j => F.sum (fun i => f i j) a) b
 | 0 => sum_zero ok fun _ _ => rfl
 | b + 1 => by
  show F.sum (fun i => F.add (F.sum (fun j => f i j) b) (f i b)) a = F.add (F.sum (fun j => F.sum (fun i => f i j) a) b) (F.sum (fun i => f i b) a)
  rw [sum_add ok, swap_sum ok f a b]
theorem sum_mul (ok : F.Ok) (c : Int) (f : Nat → Int) : ∀ k, F.mul c (F.sum f k) = F.sum (fun j => F.mul c (f j)) k
 | 0 => mul_zero_all ok c
 | k + 1 => by
  show F.mul c (F.add (F.sum f k) (f k)) = F.add (F.sum (fun j => F.mul c (f j)) k) (F.mul c (f k))
  rw [mul_comm' ok, add_mul' ok, mul_comm' ok, sum_mul ok c f k, mul_comm' ok (f k) c]
theorem dt_encF (ok : F.Ok) (u v : Nat → Int) : dt F n u (encF F m v) = dt F m.length (fun k => dt F n u (nth (nthL m k))) v := by
 have e1 : dt F n u (encF F m v) = F.sum (fun i => F.sum (fun k => F.mul (u i) (F.mul (v k) (nth (nthL m k) i))) m.length) n := sum_congr fun i _ => sum_mul ok _ _ _
 have e2 : dt F m.length (fun k => dt F n u (nth (nthL m k))) v = F.sum (fun k => F.sum (fun i => F.mul (v k) (F.mul (u i) (nth (nthL m k) i))) n) m.length := sum_congr fun k _ => by
  rw [mul_comm' ok]; exact sum_mul ok _ _ _
 rw [e1, e2, swap_sum ok]
 refine sum_congr fun k _ => sum_congr fun i _ => ?_
 rw [← mul_assoc_all ok, mul_comm' ok (u i) (v k), mul_assoc_all ok]
theorem hullW_in (h : GC F n m) {i : Nat} (hi : i < (hullW F n m).length) : Sp F m (nth (nthL (hullW F n m) i)) ∧ Or F n m (nth (nthL (hullW F n m) i)) := by
 have ok := h.good.ok
 have hgM := gram_Mat ok m
 obtain ⟨j, hj, e⟩ := hullW_at hi
 have hN := Mat_nth (nul_Mat ok (gram F m) m.length) hj
 rw [e]
 refine ⟨encTo_sp ok h.mat hN.2 (Nat.le_refl _), fun l hl => ?_⟩
 have hel : ∀ i, F.el (nth (nthL (nul F (gram F m) m.length) j) i) := fun i => row_el ok (nul_Mat ok (gram F m) m.length) j i
 have ho := ((nul_spec h.good hgM).1 _ hel (fun i hi => nth_big (by rw [hN.1]; exact hi))).1 (Sp.row ok (nul_Mat ok (gram F m) m.length) hj)
 rw [encF_nth ok h.mat, dt_encF ok]
 have := ho l (by rw [gram_len]; exact hl)
 rw [← this]
 exact sum_congr fun k hk => by rw [gram_at hl hk, dotF_dtL (Mat_nth h.mat hl).1]
theorem hullW_Mat (ok : F.Ok) : F.Mat n (hullW F n m) := encsTo_Mat ok n m _ _
theorem hullW_all (h : GC F n m) (h0 : ∀ j k, j < m.length → k < m.length → dotF F (nthL m j) (nthL m k) = 0) {j : Nat} (hj : j < m.length) : Sp F (hullW F n m) (nth (nthL m j)) := by
 have ok := h.good.ok
 have hgM := gram_Mat ok m
 have key : ∀ v, Sp F (nul F (gram F m) m.length) v → Sp F (hullW F n m) (encF F m v) := fun v hv => by
  induction hv with
  | zero =>
   rw [show encF F m (fun _ => 0) = fun _ => 0 from by funext i; exact dt_zero ok _]
   exact .zero
  | @step v l c hs hl hc ih =>
   have hl' : l < (hullW F n m).length := by
    have : (hullW F n m).length = (nul F (gram F m) m.length).length := encsTo_len F n m _ (Nat.le_refl _)
    omega
   have hh := ih.step (j := l) (c := c) hl' hc
   rw [show encF F m (fun i => F.add (v i) (F.mul c (nth (nthL (nul F (gram F m) m.length) l) i))) = fun i => F.add (encF F m v i) (F.mul c (nth (nthL (hullW F n m) l) i)) from ?_]
   · exact hh
   · funext i
     have e : nthL (hullW F n m) l = encTo F n m (nthL (nul F (gram F m) m.length) l) m.length := by
      rw [nthL_lt hl', nthL_lt hl]
      simp [hullW, encsTo]
     rw [e, encF_nth ok h.mat, encF, dt_add ok, dt_mul ok]
     rfl
 have hu : ∀ i, F.el (if i = j then (1 : Int) else 0) := fun i => by
  split
  · exact one_el ok
  · exact zero_el ok
 have hin : Sp F (nul F (gram F m) m.length) (fun i => if i = j then (1 : Int) else 0) := ((nul_spec h.good hgM).1 _ hu (fun i hi => if_neg (by omega))).2 fun l hl => by
  rw [gram_len] at hl
  refine sum_zero ok fun k hk => ?_
  rw [gram_at hl hk, h0 l k hl hk, zero_mul_all ok]
 have := key _ hin
 rw [show encF F m (fun i => if i = j then (1 : Int) else 0) = nth (nthL m j) from ?_] at this
 · exact this
 · funext i
   have hel := row_el ok h.mat j i
   rw [encF, dt, sum_one ok (l := j) hj (by rw [if_pos rfl, one_mul' ok hel]; exact hel) (fun k hk hkj => by rw [if_neg hkj, zero_mul_all ok]), if_pos rfl, one_mul' ok hel]
theorem soV_iff : soV F m = true ↔ ∀ j k, j < m.length → k ≤ j → dotF F (nthL m j) (nthL m k) = 0 := by
 rw [soV, List.all_eq_true]
 constructor
 · intro h j k hj hk
   have := h j (List.mem_range.2 hj)
   rw [List.all_eq_true] at this
   simpa using this k (List.mem_range.2 (by omega))
 · intro h j hj
   rw [List.all_eq_true]
   intro k hk
   rw [List.mem_range] at hj hk
   simpa using h j k hj (by omega)
theorem soV_all (ok : F.Ok) (hM : F.Mat n m) : soV F m = true ↔ ∀ j k, j < m.length → k < m.length → dotF F (nthL m j) (nthL m k) = 0 := by
 rw [soV_iff]
 constructor
 · intro h j k hj hk
   rcases Nat.le_total k j with h1 | h1
   · exact h j k hj h1
   · rw [dotF_comm ok (by rw [(Mat_nth hM hj).1, (Mat_nth hM hk).1])]
     exact h k j hk h1
 · intro h j k hj hk
   exact h j k hj (by omega)
theorem lnk_hull (h : GC F n m) : ((hullRes F.p F.k F.poly m).2.2.2.2 ≠ 0 → hullRes F.p F.k F.poly m = (0, 0, [], [], 6)) ∧
    ((hullRes F.p F.k F.poly m).2.2.2.2 = 0 → ∃ H, hullRes F.p F.k F.poly m = (F.p, (F.k : Int), F.poly, H, 0) ∧ GC F n H ∧ (∀ i, i < H.length → hasRes F.p F.k F.poly m (nthL H i) = true) ∧ soRes F.p F.k F.poly H = true ∧ soRes F.p F.k F.poly m = decide (H.length = m.length)) := by
 have ok := h.good.ok
 have hr : hullRes F.p F.k F.poly m = mkC F (form F (hullW F n m) n) := by rw [hullRes, if_pos h.okC, fdR_eq, h.hn]
 have hM : F.Mat n (hullW F n m) := hullW_Mat ok
 rw [hr]
 constructor
 · intro h0
   rcases h.mk_code hM (by
    have : (hullW F n m).length = (nul F (gram F m) m.length).length := encsTo_len F n m _ (Nat.le_refl _)
    have := nul_len_le F (gram F m) m.length
    omega) with h1 | h1
   · exact absurd h1 h0
   · exact h1
 · intro h0
   obtain ⟨hC, he⟩ := mkC_gc h.good hM h.n1 h.n32 h0
   obtain ⟨pv, _, hE, sE⟩ := form_ech h.good hM
   obtain ⟨pm, hEm⟩ := h.ech
   have hsub : ∀ v, Sp F (form F (hullW F n m) n) v → Sp F m v := fun v hv => Sp.of ok (fun j hj => (hullW_in h hj).1) ((sE v).1 hv)
   have hor : ∀ v, Sp F (form F (hullW F n m) n) v → Or F n m v := fun v hv => or_sp ok (fun j hj => (hullW_in h hj).2) ((sE v).1 hv)
   have hrow : ∀ i, i < (form F (hullW F n m) n).length → Sp F (form F (hullW F n m) n) (nth (nthL (form F (hullW F n m) n) i)) := fun i hi => Sp.row ok hE.mat hi
   refine ⟨_, he, hC, fun i hi => ?_, ?_, ?_⟩
   · have hq := Mat_nth hE.mat hi
     rw [hasRes, h.okC, fdR_eq, h.hn, Bool.true_and, hasV_iff h]
     exact ⟨hq.1, hq.2, hsub _ (hrow i hi)⟩
   · rw [soRes, hC.okC, fdR_eq, Bool.true_and, soV_all ok hE.mat]
     intro j k hj hk
     rw [dotF_dtL (Mat_nth hE.mat hj).1]
     exact (hor _ (hrow k hk)).sp ok (hsub _ (hrow j hj))
   · rw [soRes, h.okC, fdR_eq, Bool.true_and, Bool.eq_iff_iff, decide_eq_true_eq, soV_all ok h.mat]
     constructor
     · intro hz
       have hs2 : ∀ v, Sp F m v → Sp F (form F (hullW F n m) n) v := fun v hv => (sE v).2 (Sp.of ok (fun j hj => hullW_all h hz hj) hv)
       rw [hE.unique ok hEm fun v => ⟨hsub v, hs2 v⟩]
     · intro hl j k hj hk
       have hj2 := hE.all_of_len ok hEm hsub (by omega) (Sp.row ok h.mat hk)
       rw [dotF_dtL (Mat_nth h.mat hj).1]
       exact hor _ hj2 j hj
end
end Go.Proofs.YtkiljcbejmiioaaGreat
