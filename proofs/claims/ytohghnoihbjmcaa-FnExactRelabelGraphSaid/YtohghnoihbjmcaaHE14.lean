/-
  Texts joined.
-/
import Derived.Test.YtohghnoihbjmcaaHE3
import Derived.Test.YtohghnoihbjmcaaHE7
import Derived.Test.YtohghnoihbjmcaaHE10
import Derived.Test.YtohghnoihbjmcaaHE13
set_option linter.unusedVariables false
set_option linter.unusedSimpArgs false
set_option maxRecDepth 100000
set_option maxHeartbeats 40000000
namespace Go.Proofs.Ytohghnoihbjmcaa
open Go.RowKit Go.Sort Go.Lib
def encE (e : Int × Int) : List Value := [.int .i64 e.1, .int .i64 e.2]
theorem flatK_flatE (es : List (Int × Int)) : (flatK encE 2 es.toArray).toList = flatE es := by
 apply List.ext_getElem?
 intro t
 by_cases ht : t < es.length * 2
 · have h2 : t / 2 < es.length := by omega
   have hx : (es.toArray)[t / 2]! = nthE es (t / 2) := by simp [getElem!_pos, h2, nthE]
   have hf := flatE_get es h2
   have e1 : (flatK encE 2 es.toArray)[t]? = some ((encE (nthE es (t / 2)))[t % 2]!) := by
    have := get_flatK encE 2 es.toArray t (by simpa using ht)
    rw [getElem!_pos _ t (by simp; omega)] at this
    rw [Array.getElem?_eq_getElem (by simp; omega), this, hx]
   rw [Array.getElem?_toList, e1]
   rcases Nat.mod_two_eq_zero_or_one t with h0 | h0
   · rw [h0]
     have e2 : t = t / 2 * 2 := by omega
     rw [show (flatE es)[t]? = (flatE es)[t / 2 * 2]? by rw [← e2], hf.1]
     rfl
   · rw [h0]
     have e2 : t = t / 2 * 2 + 1 := by omega
     rw [show (flatE es)[t]? = (flatE es)[t / 2 * 2 + 1]? by rw [← e2], hf.2]
     rfl
 · rw [Array.getElem?_toList, Array.getElem?_eq_none (by simp; omega), List.getElem?_eq_none (by rw [flatE_len]; omega)]
theorem ownsRow_putRowF {w : World} {B e size g n cap q : Nat} {L : List Value} {F : Array Value} (h : w.ownsRow B e size (.slice (some ⟨g, 0, none⟩) n cap) n L) (hF : F.size = n * size) :
    (putRow id (Sort.ahead w q) g 0 F).ownsRow B e size (.slice (some ⟨g, 0, none⟩) n cap) n F.toList := by
 rcases h.2 with ⟨e0, _⟩ | ⟨g', cap', cur, e0, hb, hg, hn, hm, hs, ht⟩
 · cases e0
 · injection e0 with e1 _ e3
   injection e1 with e1
   injection e1 with e1
   subst e1; subst e3
   have hns : n * size ≤ cap * size := Nat.mul_le_mul_right _ hn
   refine ⟨by simpa using hF, .inr ⟨g, cap, putCells id 0 F cur, rfl, hb, ?_, by omega, hm, by simpa [putCells] using hs, ?_⟩⟩
   · simp [putRow, mapBlock, Sort.ahead, Array.getElem?_modify, hg, onCells]
   · apply List.ext_getElem?
     intro j
     rw [List.getElem?_take, Array.getElem?_toList, Array.getElem?_toList]
     by_cases hj : j < n * size
     · have hjc : j < cur.size := by omega
       simp only [if_pos hj, putCells, Array.getElem?_mapIdx, Array.getElem?_eq_getElem hjc, Option.map_some]
       rw [if_pos (by omega), Array.getElem?_eq_getElem (by omega)]
       simp [getElem!_pos, show j < F.size by omega]
     · rw [if_neg hj, Array.getElem?_eq_none (by omega)]
theorem swoE : SWO (ltOf cmpE) := by
 have key : ∀ x y, ltOf cmpE x y = true ↔ LtE x y := fun x y => by rw [ltOf, decide_eq_true_eq, cmpE_neg]
 have nkey : ∀ x y, ltOf cmpE x y = false ↔ ¬ LtE x y := fun x y => by rw [← key, Bool.not_eq_true]
 refine ⟨fun x => (nkey _ _).2 fun h => h.ne rfl, fun x y z h k => (key _ _).2 (((key _ _).1 h).trans ((key _ _).1 k)), fun x y z h k => (nkey _ _).2 fun h3 => ?_⟩
 have h1 := (nkey _ _).1 h
 have h2 := (nkey _ _).1 k
 unfold LtE at *
 omega
theorem sortE_own {w : World} {B : Nat} {v : Value} {es : List (Int × Int)} (h : OwnE w B v es) :
    Calls Try.prog 79 #[v, .func (.func 46) #[] #[]] w fun e w' => e = .returned (.tuple #[]) ∧ ∃ fs : List (Int × Int), fs.Perm es ∧ fs.Pairwise (fun a b => ¬ LtE b a) ∧ OwnE w' B v fs ∧ w.grownBy w' v.ownBlock := by
 rcases h.slice_form with ⟨rfl, rfl⟩ | ⟨g, c, rfl, hB, hg⟩
 · refine (AnyF.slices_SortFunc_none laySortE none 0 _ w).mono ?_
   rintro e w' ⟨rfl, rfl⟩
   exact ⟨rfl, [], List.Perm.refl _, .nil, OwnE.nil _ _, World.grownBy.refl _ _⟩
 · have hl := h.1
   have hH : HoldsK encE 2 w g 0 es.toArray := by
    intro j hj
    simp only [size_flatK, List.size_toArray] at hj
    refine ⟨?_, by rw [Nat.zero_add]; exact h.frozen j⟩
    have hfl := flatK_flatE es
    have hjj : j < (flatK encE 2 es.toArray).size := by simpa using hj
    rw [Nat.zero_add, h.2.cellAt j (by omega), ← hfl, Array.getElem?_toList, getElem!_pos _ j hjj, Array.getElem?_eq_getElem hjj]
    rfl
   have hcmp : CmpLays Try.prog 46 #[] encE 2 cmpE g 0 es.toArray.size w := fun m os dk _ x y => compareEdges_grow x y _
   have eg : ∀ args w, (callFunc 46 args).run Try.prog w = .ok (.enter 46 args) w := enters_of Try.func46 (by kernel_rfl) rfl
   have key := AnyQ.slices_SortFunc laySortE 2 Try.isAgg58 Try.sizeOf58 encE (fun _ => rfl) (fun x v hv => by
    rcases List.mem_cons.1 hv with rfl | hv
    · rfl
    · rw [List.mem_singleton.1 hv]; rfl) cmpE swoE 46 #[] g 0 c es.toArray w eg hcmp hH hg (by simp; omega)
   simp only [List.size_toArray] at key
   refine key.mono ?_
   rintro e w' ⟨rfl, d, q, os, hp, hs, rfl⟩
   have hds : d.size = es.length := by simpa using hp.1
   have hperm : d.toList.Perm es := by
    have := hp.2.2
    rw [Array.extract_eq_self_of_le (by omega), Array.extract_eq_self_of_le (by simp)] at this
    simpa using this
   have hgb := grownBy_putRow id w g q (flatK encE 2 d)
   have ho := ownsRow_putRowF (q := q) (F := flatK encE 2 d) h.2 (by simp [hds])
   have hfl := flatK_flatE d.toList
   rw [Array.toArray_toList] at hfl
   rw [hfl] at ho
   refine ⟨rfl, d.toList, hperm, ?_, ⟨by simpa [hds] using hl, ?_⟩, grownBy_grow hgb os⟩
   · rw [List.pairwise_iff_getElem]
     intro i j hi hj hij hlt
     have := hs i j (Nat.zero_le _) hij (by simpa [hds] using hj)
     rw [ltOf, decide_eq_false_iff_not, cmpE_neg] at this
     refine this ?_
     simp only [Array.length_toList] at hi hj
     rw [getElem!_pos d j (by omega), getElem!_pos d i (by omega)]
     simpa using hlt
   · have e : d.toList.length = es.length := by simpa using hds
     rw [e]
     exact ownsRow_below ho (below_grow _ os) (Nat.le_refl _)
end Go.Proofs.Ytohghnoihbjmcaa
