/-
  Texts joined.
-/
import Derived.Lib.SliceRun
import Derived.Test.YtkiljcbejmiioaaGreatLK18
import Derived.Test.YtkiljcbejmiioaaGreatLK19
set_option linter.unusedVariables false
set_option linter.unusedSimpArgs false
set_option maxRecDepth 100000
set_option maxHeartbeats 40000000
namespace Go.Proofs.YtkiljcbejmiioaaGreat
open Go.RowKit
attribute [local go_sem ↓] Go.wp_at_zero Go.wp_at_succ
theorem ownsRow_setCells {B e size g n cap : Nat} : ∀ (vs : List Value) (o : Nat) (w : World) (L : List Value), w.ownsRow B e size (.slice (some ⟨g, 0, none⟩) n cap) n L →
    ∃ L', (w.setCells g o vs).ownsRow B e size (.slice (some ⟨g, 0, none⟩) n cap) n L' ∧ (∀ j, j < o → L'[j]? = L[j]?) ∧ w.grownBy (w.setCells g o vs) (some g)
 | [], _, w, L, h => ⟨L, h, fun _ _ => rfl, World.grownBy.refl w _⟩
 | v :: r, o, w, L, h => by
  obtain ⟨h1, h2⟩ := h.stored o v
  obtain ⟨L', a1, a2, a3⟩ := ownsRow_setCells r (o + 1) _ _ h1
  exact ⟨L', a1, fun j hj => by rw [a2 j (by omega), List.getElem?_set_ne (by omega)], grown_trans_row h2 a3⟩
theorem ownsRow_cut {w : World} {B e size g n m cap : Nat} {L : List Value} (h : w.ownsRow B e size (.slice (some ⟨g, 0, none⟩) n cap) n L) (hm : m ≤ n) : w.ownsRow B e size (.slice (some ⟨g, 0, none⟩) m cap) m (L.take (m * size)) := by
 have hmn : m * size ≤ n * size := Nat.mul_le_mul_right _ hm
 refine ⟨by rw [List.length_take, h.1]; omega, ?_⟩
 rcases h.2 with ⟨e0, _⟩ | ⟨g', cap', cur, e0, hB, hg, hn, hc, hs, ht⟩
 · cases e0
 · injection e0 with e1 _ e3
   injection e1 with e1
   injection e1 with e1 _
   subst e1; subst e3
   exact .inr ⟨g, cap, cur, rfl, hB, hg, by omega, hc, hs, by rw [← ht, List.take_take, Nat.min_eq_left hmn]⟩
theorem cmpct_skip {es : List (Int × Int)} {k : Nat} (hk : 0 < k) (hl : k < es.length) (h : nthE es k = nthE es (k - 1)) : cmpct sameE (es.take (k + 1)) = cmpct sameE (es.take k) := by
 have hne : es.take k ≠ [] := by
  intro e
  have := congrArg List.length e
  rw [List.length_take, List.length_nil] at this
  omega
 rw [List.take_add_one, List.getElem?_eq_getElem hl]
 show cmpct sameE (es.take k ++ [es[k]]) = _
 rw [cmpct_snoc _ _ hne]
 have hla : (es.take k).getLast hne = nthE es (k - 1) := by
  rw [List.getLast_eq_getElem, List.getElem_take, nthE_lt (i := k - 1) (by omega)]
  congr 1
  rw [List.length_take]; omega
 rw [hla, ← h, nthE_lt hl]
 simp [sameE]
theorem cmpct_keep {es : List (Int × Int)} {k : Nat} (hk : 0 < k) (hl : k < es.length) (h : nthE es k ≠ nthE es (k - 1)) : cmpct sameE (es.take (k + 1)) = cmpct sameE (es.take k) ++ [nthE es k] := by
 have hne : es.take k ≠ [] := by
  intro e
  have := congrArg List.length e
  rw [List.length_take, List.length_nil] at this
  omega
 rw [List.take_add_one, List.getElem?_eq_getElem hl]
 show cmpct sameE (es.take k ++ [es[k]]) = _
 rw [cmpct_snoc _ _ hne]
 have hla : (es.take k).getLast hne = nthE es (k - 1) := by
  rw [List.getLast_eq_getElem, List.getElem_take, nthE_lt (i := k - 1) (by omega)]
  congr 1
  rw [List.length_take]; omega
 rw [hla, ← nthE_lt hl]
 have : sameE (nthE es k) (nthE es (k - 1)) = false := by simp [sameE, h]
 rw [this]; rfl
theorem nthE_set_ne {es : List (Int × Int)} {i j : Nat} (h : i ≠ j) (e : Int × Int) : nthE (es.set i e) j = nthE es j := by
 simp [nthE, List.getD_eq_getElem?_getD, List.getElem?_set_ne h]
theorem take_set_snoc {ds : List (Int × Int)} {kk : Nat} (h : kk < ds.length) (e : Int × Int) : (ds.set kk e).take (kk + 1) = ds.take kk ++ [e] := by
 rw [List.take_add_one, List.take_set_of_le (Nat.le_refl _)]
 simp [h]
structure CmpI (es ds : List (Int × Int)) (p kk : Nat) : Prop where
 len : ds.length = es.length
 kp : kk < p
 pl : p ≤ es.length
 done : ds.take kk = cmpct sameE (es.take p)
 rest : ∀ i, p - 1 ≤ i → nthE ds i = nthE es i
theorem CmpI.skip {es ds : List (Int × Int)} {p kk : Nat} (h : CmpI es ds p kk) (hp : p < es.length) (e : nthE es p = nthE es (p - 1)) : CmpI es ds (p + 1) kk :=
 ⟨h.len, by have := h.kp; omega, by omega, by rw [cmpct_skip (by have := h.kp; omega) hp e]; exact h.done, fun i hi => h.rest i (by omega)⟩
theorem CmpI.keep {es ds : List (Int × Int)} {p kk : Nat} (h : CmpI es ds p kk) (hp : p < es.length) (e : nthE es p ≠ nthE es (p - 1)) : CmpI es (ds.set kk (nthE es p)) (p + 1) (kk + 1) := by
 have h1 := h.kp
 have h2 := h.len
 refine ⟨by rw [List.length_set]; exact h2, by omega, by omega, ?_, fun i hi => ?_⟩
 · rw [take_set_snoc (by omega), h.done, cmpct_keep (by omega) hp e]
 · rw [nthE_set_ne (by omega)]
   exact h.rest i (by omega)
end Go.Proofs.YtkiljcbejmiioaaGreat
