/-
  Texts joined.
-/
import Derived.Test.YtgfcbmflnldicaaGreatRF26
import Derived.Test.YtgfcbmflnldicaaGreatRF28
import Derived.Test.YtgfcbmflnldicaaGreatRF30
set_option linter.unusedVariables false
set_option linter.unusedSimpArgs false
set_option maxRecDepth 100000
set_option maxHeartbeats 40000000
namespace Go.Proofs.YtgfcbmflnldicaaGreat
open Go.RowKit
theorem nodup_sub {α : Type} [DecidableEq α] : ∀ {p q : List α}, p.Nodup → (∀ x ∈ p, x ∈ q) → p.length ≤ q.length
 | [], _, _, _ => Nat.zero_le _
 | x :: p, q, hn, hs => by
  rw [List.nodup_cons] at hn
  have hx := hs x List.mem_cons_self
  have ih := nodup_sub (p := p) (q := q.erase x) hn.2 (fun y hy => (List.mem_erase_of_ne (fun (e : y = x) => hn.1 (by rw [← e]; exact hy))).2 (hs y (List.mem_cons_of_mem _ hy)))
  rw [List.length_erase_of_mem hx] at ih
  have := List.length_pos_of_mem hx
  rw [List.length_cons]
  omega
section
variable {n : Nat} {xs p C : List Int} {es : List (Int × Int)}
def pf (p : List Int) (v : Nat) : Nat := (nth p v).toNat
theorem pf_eq (hp : permOk p n = true) {v : Nat} (hv : v < n) : nth p v = (pf p v : Int) ∧ pf p v < n := by
 obtain ⟨j, h1, h2⟩ := permOk_at hp hv
 rw [pf, h1, Int.toNat_natCast]
 exact ⟨rfl, h2⟩
theorem pf_inj (hp : permOk p n = true) {u v : Nat} (hu : u < n) (hv : v < n) (h : pf p u = pf p v) : u = v :=
 permOk_inj hp hu hv (by rw [(pf_eq hp hu).1, (pf_eq hp hv).1, h])
theorem pf_surj (hp : permOk p n = true) {w : Nat} (hw : w < n) : ∃ v, v < n ∧ pf p v = w := by
 have hl := permOk_len hp
 have hm : (w : Int) ∈ rngI n := rngI_mem.2 ⟨by omega, by omega⟩
 rw [← permOk_iff.1 hp] at hm
 have hm2 := (sortI_perm p).mem_iff.1 hm
 obtain ⟨i, hi, he⟩ := List.getElem_of_mem hm2
 refine ⟨i, by omega, ?_⟩
 rw [pf, nth_lt hi, he, Int.toNat_natCast]
theorem setTo_at (hp : permOk p n = true) (hl : C.length = n) : ∀ k, k ≤ n → ∀ v, v < k → nth (setTo C p k) (pf p v) = nth C v
 | 0, _, v, hv => absurd hv (Nat.not_lt_zero _)
 | k + 1, hk, v, hv => by
  have hkn : k < n := by omega
  rw [setTo]
  by_cases e : v = k
  · subst e
    rw [show (nth p v).toNat = pf p v from rfl, nth]
    have := (pf_eq hp hkn).2
    simp [setTo_len, hl, this]
  · have hne : pf p k ≠ pf p v := fun h => e (pf_inj hp hkn (by omega) h).symm
    rw [show (nth p k).toNat = pf p k from rfl]
    have ih := setTo_at hp hl k (by omega) v (by omega)
    rw [← ih]
    simp only [nth, List.getD_eq_getElem?_getD]
    rw [List.getElem?_set_ne hne]
theorem setTo_moved (hp : permOk p n = true) (hl : C.length = n) : Moved n (pf p) C (setTo C p n) := ⟨hl, by rw [setTo_len]; exact hl, fun v hv => setTo_at hp hl n (Nat.le_refl n) v hv⟩
theorem moved_eq (hp : permOk p n = true) {C' : List Int} (h : Moved n (pf p) C C') : C' = setTo C p n := by
 have h2 := setTo_moved hp h.l
 refine eq_of_nth (by rw [h.l', h2.l']) fun i hi => ?_
 rw [h.l'] at hi
 obtain ⟨v, hv, rfl⟩ := pf_surj hp hi
 rw [h.at_ v hv, h2.at_ v hv]
theorem setTo_mem (hp : permOk p n = true) (hl : C.length = n) {x : Int} (hx : x ∈ setTo C p n) : x ∈ C := by
 obtain ⟨i, hi, rfl⟩ := List.getElem_of_mem hx
 rw [setTo_len] at hi
 obtain ⟨v, hv, rfl⟩ := pf_surj hp (by omega : i < n)
 rw [← nth_lt, setTo_at hp hl n (Nat.le_refl n) v hv]
 exact nth_mem (by omega)
theorem colorsOk_iff : colorsOk C = true ↔ C.length ≤ 64 ∧ ∀ x ∈ C, notColor x = false := by
 rw [colorsOk, Bool.and_eq_true, decide_eq_true_eq, Bool.not_eq_true', List.any_eq_false]
 refine and_congr Iff.rfl ⟨fun h x hx => by simpa using h x hx, fun h x hx => by simpa using h x hx⟩
theorem colors_moved (hp : permOk p n = true) (hl : C.length = n) (h : colorsOk C = true) : colorsOk (setTo C p n) = true := by
 rw [colorsOk_iff] at h ⊢
 exact ⟨by rw [setTo_len]; exact h.1, fun x hx => h.2 x (setTo_mem hp hl hx)⟩
theorem adj_moved (hG : GG n xs es) (hp : permOk p n = true) {u v : Nat} (hu : u < n) (hv : v < n) : adjE (mapE p es) (pf p u) (pf p v) = adjE es u v := by
 have key : ∀ u v, u < n → v < n → ((((pf p u : Nat) : Int), ((pf p v : Nat) : Int)) ∈ mapE p es ↔ ((u : Int), (v : Int)) ∈ es) := fun u v hu hv => by
  rw [mapE, List.mem_map]
  constructor
  · rintro ⟨e, he, h⟩
    have h0 := hG.lo e he
    have h1 := hG.lt e he
    have h2 := hG.hi e he
    obtain ⟨i, hi⟩ : ∃ i : Nat, e.1 = (i : Int) := ⟨e.1.toNat, by omega⟩
    obtain ⟨j, hj⟩ : ∃ j : Nat, e.2 = (j : Int) := ⟨e.2.toNat, by omega⟩
    rw [hi, hj, Int.toNat_natCast, Int.toNat_natCast, (pf_eq hp (by omega : i < n)).1, (pf_eq hp (by omega : j < n)).1, Prod.mk.injEq] at h
    have a1 := pf_inj hp (by omega : i < n) hu (by omega)
    have a2 := pf_inj hp (by omega : j < n) hv (by omega)
    rw [← a1, ← a2, ← hi, ← hj]
    exact he
  · intro h
    refine ⟨_, h, ?_⟩
    rw [Int.toNat_natCast, Int.toNat_natCast, (pf_eq hp hu).1, (pf_eq hp hv).1]
 rw [Bool.eq_iff_iff, adjE_iff, adjE_iff, key u v hu hv, key v u hv hu]
theorem adj_self {n : Nat} {es : List (Int × Int)} (h : ∀ e ∈ es, 0 ≤ e.1 ∧ e.1 < n ∧ 0 ≤ e.2 ∧ e.2 < n ∧ e.1 ≠ e.2) (a : Nat) : adjE es a a = false := by
 cases hk : adjE es a a with
 | false => rfl
 | true =>
  rcases adjE_iff.1 hk with h1 | h1 <;> exact absurd rfl (h _ h1).2.2.2.2
theorem adj_edges {T : Nat → Nat → Bool} (hs : ∀ a b, T a b = T b a) (hi : ∀ a, T a a = false) {a b : Nat} (ha : a < n) (hb : b < n) : adjE (edgesT n T n) a b = T a b := by
 rw [Bool.eq_iff_iff, adjE_iff, mem_edgesT, mem_edgesT]
 constructor
 · rintro (⟨x, y, _, _, _, h5, h6⟩ | ⟨x, y, _, _, _, h5, h6⟩)
   · rw [Prod.mk.injEq] at h6
     rw [show a = x by omega, show b = y by omega]; exact h5
   · rw [Prod.mk.injEq] at h6
     rw [hs, show b = x by omega, show a = y by omega]; exact h5
 · intro h
   rcases Nat.lt_trichotomy a b with h1 | h1 | h1
   · exact .inl ⟨a, b, ha, h1, hb, h, rfl⟩
   · subst h1; rw [hi] at h; cases h
   · exact .inr ⟨b, a, hb, h1, ha, by rw [hs]; exact h, rfl⟩
def esM (n : Nat) (p : List Int) (es : List (Int × Int)) : List (Int × Int) := edgesT n (adjE (mapE p es)) n
theorem adj_esM (hG : GG n xs es) (hp : permOk p n = true) {u v : Nat} (hu : u < n) (hv : v < n) : adjE (esM n p es) (pf p u) (pf p v) = adjE es u v := by
 rw [esM, adj_edges (fun a b => adjE_comm _ a b) (adj_self (mapE_in hG hp)) (pf_eq hp hu).2 (pf_eq hp hv).2, adj_moved hG hp hu hv]
theorem esM_ok (hG : GG n xs es) (hp : permOk p n = true) : okG (setTo xs p n) (esM n p es) = true := by
 have hyl : (setTo xs p n).length = n := by rw [setTo_len]; exact hG.hn
 refine okG_iff.2 ?_
 rw [hyl]
 refine ⟨hyl, hG.n64, colors_moved hp hG.hn hG.cols, ?_, fun e he => ?_, fun e he => ?_, fun e he => ?_, edgesT_sorted _ _ _⟩
 · have hnd : (esM n p es).Nodup := (edgesT_sorted n _ n).imp fun h => h.ne
   have h := nodup_sub (q := (mapE p es).map ordE) hnd (fun e he => by
    obtain ⟨a, b, _, hab, _, ht, rfl⟩ := mem_edgesT.1 he
    rcases adjE_iff.1 ht with h1 | h1
    · refine List.mem_map.2 ⟨_, h1, ?_⟩
      rw [ordE, if_pos (by show (a : Int) < b; omega)]
    · refine List.mem_map.2 ⟨_, h1, ?_⟩
      rw [ordE, if_neg (by show ¬ (b : Int) < a; omega)])
   rw [List.length_map, mapE_len] at h
   exact Nat.le_trans h hG.m512
 · obtain ⟨a, b, _, _, _, _, rfl⟩ := mem_edgesT.1 he
   show (0 : Int) ≤ a; omega
 · obtain ⟨a, b, _, hab, _, _, rfl⟩ := mem_edgesT.1 he
   show (a : Int) < b; omega
 · obtain ⟨a, b, _, _, hb, _, rfl⟩ := mem_edgesT.1 he
   show (b : Int) < n; omega
theorem near_moved (hG : GG n xs es) (hp : permOk p n = true) {v : Nat} (hv : v < n) :
    (nthL (nearA n (adjE (esM n p es)) n) (pf p v)).Perm ((nthL (nearA n (adjE es) n) v).map fun w => ((pf p w.toNat : Nat) : Int)) := by
 rw [nearA_nth _ (pf_eq hp hv).2, nearA_nth _ hv]
 have hn1 : (nearT n (adjE (esM n p es)) (pf p v)).Nodup := (nearT_sorted _ _ _).imp fun h => by omega
 have hn2 : ((nearT n (adjE es) v).map fun w => ((pf p w.toNat : Nat) : Int)).Nodup := by
  refine nodup_map_of ((nearT_sorted n (adjE es) v).imp fun h => by omega) fun x hx y hy h => ?_
  obtain ⟨a, ha, _, rfl⟩ := mem_nearT.1 hx
  obtain ⟨b, hb, _, rfl⟩ := mem_nearT.1 hy
  rw [Int.toNat_natCast, Int.toNat_natCast] at h
  rw [pf_inj hp ha hb (by omega)]
 refine (List.perm_ext_iff_of_nodup hn1 hn2).2 fun x => ?_
 rw [mem_nearT, List.mem_map]
 constructor
 · rintro ⟨b, hb, ht, rfl⟩
   obtain ⟨u, hu, rfl⟩ := pf_surj hp hb
   rw [adj_esM hG hp hv hu] at ht
   exact ⟨(u : Int), mem_nearT.2 ⟨u, hu, ht, rfl⟩, by rw [Int.toNat_natCast]⟩
 · rintro ⟨y, hy, rfl⟩
   obtain ⟨u, hu, ht, rfl⟩ := mem_nearT.1 hy
   rw [Int.toNat_natCast]
   exact ⟨pf p u, (pf_eq hp hu).2, by rw [adj_esM hG hp hv hu]; exact ht, rfl⟩
theorem near_in (es : List (Int × Int)) (n : Nat) {v : Nat} (hv : v < n) : ∀ w ∈ nthL (nearA n (adjE es) n) v, 0 ≤ w ∧ w.toNat < n := fun w hw => by
 rw [nearA_nth _ hv] at hw
 obtain ⟨b, hb, _, rfl⟩ := mem_nearT.1 hw
 rw [Int.toNat_natCast]
 exact ⟨by omega, hb⟩
theorem notColor_in {x : Int} (h0 : 0 ≤ x) (h1 : x < 64) : notColor x = false := by
 simp only [notColor, colorOk, inB, Bool.not_eq_false', decide_eq_true_eq]
 omega
theorem ref_law {cs : List Int} (hk : okG xs es = true) (hl : cs.length = xs.length) (hc : colorsOk cs = true) (hp : permOk p xs.length = true) :
    let x := refF (nearA xs.length (adjE es) xs.length) cs.length cs
    x.length = xs.length ∧ eqRes xs es x = true ∧ (∀ u v, u < xs.length → v < xs.length → nth x u = nth x v → nth cs u = nth cs v) ∧
    (∀ u v, u < xs.length → v < xs.length → nth cs u < nth cs v → nth x u < nth x v) ∧
    rlRes xs es p = (setTo xs p xs.length, esM xs.length p es, 0) ∧
    rcRes (setTo xs p xs.length) (esM xs.length p es) (setTo cs p xs.length) = (setTo x p xs.length, 0) := by
 have hG := okG_iff.1 hk
 intro x
 have hx : x = refF (nearA xs.length (adjE es) xs.length) cs.length cs := rfl
 have hxl : x.length = xs.length := by rw [hx, refF_len]; exact hl
 refine ⟨hxl, ?_, fun u v hu hv h => ref_fine _ cs (by omega) (by omega) h, fun u v hu hv h => ref_lt _ cs (by omega) (by omega) h, ?_, ?_⟩
 · have hco : colorsOk x = true := by
     rw [colorsOk_iff]
     refine ⟨by rw [hxl]; exact hG.n64, fun y hy => ?_⟩
     obtain ⟨D, hD1, hD2, _⟩ := refF_end (nearA xs.length (adjE es) xs.length) cs.length cs (Nat.le_add_right _ _)
     rw [hx, hD2] at hy
     obtain ⟨i, hi, rfl⟩ := List.getElem_of_mem hy
     rw [roundT_len] at hi
     rw [← nth_lt, roundT_nth _ hi]
     have h1 : keyAt (nearA xs.length (adjE es) xs.length) D i ∈ keysOf (nearA xs.length (adjE es) xs.length) D := by
      rw [← keysOf_nth _ hi]; exact nthL_mem (by rw [keysOf_len]; exact hi)
     obtain ⟨q, hq1, hq2, _⟩ := rank_place h1
     have h2 := cmpct_len eqL (sortL (keysOf (nearA xs.length (adjE es) xs.length) D))
     rw [(sortL_perm _).length_eq, keysOf_len] at h2
     have h3 := hG.n64
     have h4 : (distL (keysOf (nearA xs.length (adjE es) xs.length) D)).length ≤ D.length := h2
     exact notColor_in (by omega) (by omega)
   rw [eqRes, hk, hco, decide_eq_true hxl, Bool.true_and, Bool.true_and, Bool.true_and, hx]
   exact ref_equit (Nat.le_add_right _ _) fun v hv w hw => by rw [hl] at hv ⊢; exact near_in es xs.length hv w hw
 · rw [rlRes, if_pos hk, if_pos hp]; rfl
 · have hok2 := esM_ok hG hp
   have hcl : (setTo cs p xs.length).length = xs.length := by rw [setTo_len]; exact hl
   have hyl : (setTo xs p xs.length).length = xs.length := setTo_len xs p xs.length
   rw [rcRes, if_pos hok2, hyl, hcl, decide_eq_true rfl, colors_moved hp hl hc, Bool.true_and, if_pos rfl]
   have hm := ref_moved (fun v hv => (pf_eq hp hv).2) (fun w hw => pf_surj hp hw) (fun v hv => near_in es xs.length hv) (fun v hv => near_moved hG hp hv) xs.length cs (setTo cs p xs.length) (setTo_moved hp hl)
   rw [moved_eq hp hm, hx, hl]
end
end Go.Proofs.YtgfcbmflnldicaaGreat
