/-
  Texts joined.
-/
import Derived.Test.YtgfcbmflnldicaaGreatRF1
import Derived.Test.YtgfcbmflnldicaaGreatRF3
import Derived.Test.YtgfcbmflnldicaaGreatRF5
import Derived.Test.YtgfcbmflnldicaaGreatRF9
import Derived.Test.YtgfcbmflnldicaaGreatRF10
import Derived.Test.YtgfcbmflnldicaaGreatRF12
import Derived.Test.YtgfcbmflnldicaaGreatRF17
import Derived.Test.YtgfcbmflnldicaaGreatRF19
set_option linter.unusedVariables false
set_option linter.unusedSimpArgs false
set_option maxRecDepth 100000
set_option maxHeartbeats 40000000
namespace Go.Proofs.YtgfcbmflnldicaaGreat
open Go.RowKit Go.Sort Go.Lib
def encE (e : Int × Int) : List Value := [.int .i64 e.1, .int .i64 e.2]
theorem flatK_flatE (es : List (Int × Int)) : (flatK encE 2 es.toArray).toList = flatE es := by
 apply List.ext_getElem?
 intro t
 by_cases ht : t < es.length * 2
 · have h2 : t / 2 < es.length := by omega
   have hx : (es.toArray)[t / 2]! = nthE es (t / 2) := by simp [getElem!_pos, h2, nthE]
   have hf := flatE_get es h2
   have e1 : (flatK encE 2 es.toArray)[t]? = some ((encE (nthE es (t / 2)))[t % 2]!) := by
    have := get_flatK encE 2 es.toArray t (by simpa using ht)
    rw [getElem!_pos _ t (by simp; omega)] at this
    rw [Array.getElem?_eq_getElem (by simp; omega), this, hx]
   rw [Array.getElem?_toList, e1]
   rcases Nat.mod_two_eq_zero_or_one t with h0 | h0
   · rw [h0]
     have e2 : t = t / 2 * 2 := by omega
     rw [show (flatE es)[t]? = (flatE es)[t / 2 * 2]? by rw [← e2], hf.1]
     rfl
   · rw [h0]
     have e2 : t = t / 2 * 2 + 1 := by omega
     rw [show (flatE es)[t]? = (flatE es)[t / 2 * 2 + 1]? by rw [← e2], hf.2]
     rfl
 · rw [Array.getElem?_toList, Array.getElem?_eq_none (by simp; omega), List.getElem?_eq_none (by rw [flatE_len]; omega)]
theorem ownsRow_putRowF {w : World} {B e size g n cap q : Nat} {L : List Value} {F : Array Value} (h : w.ownsRow B e size (.slice (some ⟨g, 0, none⟩) n cap) n L) (hF : F.size = n * size) :
    (putRow id (Sort.ahead w q) g 0 F).ownsRow B e size (.slice (some ⟨g, 0, none⟩) n cap) n F.toList := by
 rcases h.2 with ⟨e0, _⟩ | ⟨g', cap', cur, e0, hb, hg, hn, hm, hs, ht⟩
 · cases e0
 · injection e0 with e1 _ e3
   injection e1 with e1
   injection e1 with e1
   subst e1; subst e3
   have hns : n * size ≤ cap * size := Nat.mul_le_mul_right _ hn
   refine ⟨by simpa using hF, .inr ⟨g, cap, putCells id 0 F cur, rfl, hb, ?_, by omega, hm, by simpa [putCells] using hs, ?_⟩⟩
   · simp [putRow, mapBlock, Sort.ahead, Array.getElem?_modify, hg, onCells]
   · apply List.ext_getElem?
     intro j
     rw [List.getElem?_take, Array.getElem?_toList, Array.getElem?_toList]
     by_cases hj : j < n * size
     · have hjc : j < cur.size := by omega
       simp only [if_pos hj, putCells, Array.getElem?_mapIdx, Array.getElem?_eq_getElem hjc, Option.map_some]
       rw [if_pos (by omega), Array.getElem?_eq_getElem (by omega)]
       simp [getElem!_pos, show j < F.size by omega]
     · rw [if_neg hj, Array.getElem?_eq_none (by omega)]
theorem swoE : SWO (ltOf cmpE) := by
 have key : ∀ x y, ltOf cmpE x y = true ↔ LtE x y := fun x y => by rw [ltOf, decide_eq_true_eq, cmpE_neg]
 have nkey : ∀ x y, ltOf cmpE x y = false ↔ ¬ LtE x y := fun x y => by rw [← key, Bool.not_eq_true]
 refine ⟨fun x => (nkey _ _).2 fun h => h.ne rfl, fun x y z h k => (key _ _).2 (((key _ _).1 h).trans ((key _ _).1 k)), fun x y z h k => (nkey _ _).2 fun h3 => ?_⟩
 have h1 := (nkey _ _).1 h
 have h2 := (nkey _ _).1 k
 unfold LtE at *
 omega
theorem sortE_own {w : World} {B : Nat} {v : Value} {es : List (Int × Int)} (h : OwnE w B v es) :
    Calls Tryz.prog 190 #[v, .func (.func 109) #[] #[]] w fun e w' => e = .returned (.tuple #[]) ∧ ∃ fs : List (Int × Int), fs.Perm es ∧ fs.Pairwise (fun a b => ¬ LtE b a) ∧ OwnE w' B v fs ∧ w.grownBy w' v.ownBlock := by
 rcases h.slice_form with ⟨rfl, rfl⟩ | ⟨g, c, rfl, hB, hg⟩
 · refine (AnyF.slices_SortFunc_none laySortE none 0 _ w).mono ?_
   rintro e w' ⟨rfl, rfl⟩
   exact ⟨rfl, [], List.Perm.refl _, .nil, OwnE.nil _ _, World.grownBy.refl _ _⟩
 · have hl := h.1
   have hH : HoldsK encE 2 w g 0 es.toArray := by
    intro j hj
    simp only [size_flatK, List.size_toArray] at hj
    refine ⟨?_, by rw [Nat.zero_add]; exact h.frozen j⟩
    have hfl := flatK_flatE es
    have hjj : j < (flatK encE 2 es.toArray).size := by simpa using hj
    rw [Nat.zero_add, h.2.cellAt j (by omega), ← hfl, Array.getElem?_toList, getElem!_pos _ j hjj, Array.getElem?_eq_getElem hjj]
    rfl
   have hcmp : CmpLays Tryz.prog 109 #[] encE 2 cmpE g 0 es.toArray.size w := fun m os dk _ x y => compareEdges_grow x y _
   have eg : ∀ args w, (callFunc 109 args).run Tryz.prog w = .ok (.enter 109 args) w := enters_of Tryz.func109 (by kernel_rfl) rfl
   have key := AnyQ.slices_SortFunc laySortE 2 Tryz.isAgg142 Tryz.sizeOf142 encE (fun _ => rfl) (fun x v hv => by
    rcases List.mem_cons.1 hv with rfl | hv
    · rfl
    · rw [List.mem_singleton.1 hv]; rfl) cmpE swoE 109 #[] g 0 c es.toArray w eg hcmp hH hg (by simp; omega)
   simp only [List.size_toArray] at key
   refine key.mono ?_
   rintro e w' ⟨rfl, d, q, os, hp, hs, rfl⟩
   have hds : d.size = es.length := by simpa using hp.1
   have hperm : d.toList.Perm es := by
    have := hp.2.2
    rw [Array.extract_eq_self_of_le (by omega), Array.extract_eq_self_of_le (by simp)] at this
    simpa using this
   have hgb := grownBy_putRow id w g q (flatK encE 2 d)
   have ho := ownsRow_putRowF (q := q) (F := flatK encE 2 d) h.2 (by simp [hds])
   have hfl := flatK_flatE d.toList
   rw [Array.toArray_toList] at hfl
   rw [hfl] at ho
   refine ⟨rfl, d.toList, hperm, ?_, ⟨by simpa [hds] using hl, ?_⟩, grownBy_grow hgb os⟩
   · rw [List.pairwise_iff_getElem]
     intro i j hi hj hij hlt
     have := hs i j (Nat.zero_le _) hij (by simpa [hds] using hj)
     rw [ltOf, decide_eq_false_iff_not, cmpE_neg] at this
     refine this ?_
     simp only [Array.length_toList] at hi hj
     rw [getElem!_pos d j (by omega), getElem!_pos d i (by omega)]
     simpa using hlt
   · have e : d.toList.length = es.length := by simpa using hds
     rw [e]
     exact ownsRow_below ho (below_grow _ os) (Nat.le_refl _)
end Go.Proofs.YtgfcbmflnldicaaGreat
namespace Go.Proofs.YtgfcbmflnldicaaGreat
open Go.RowKit Go.Sort Go.Lib
structure Hdr where
 a : Option Addr
 c : Nat
 xs : List Int
def Hdr.val (h : Hdr) : Value := .slice h.a h.xs.length h.c
def Hdr.none : Hdr := ⟨Option.none, 0, []⟩
def hdAt (hs : List Hdr) (i : Nat) : Hdr := hs.getD i Hdr.none
theorem hdAt_lt {hs : List Hdr} {i : Nat} (h : i < hs.length) : hdAt hs i = hs[i] := by simp [hdAt, h]
def OwnR (w0 w : World) (v : Value) (hs : List Hdr) : Prop := hs.length ≤ 1048576 ∧ w.ownsRow w0.heap.size 24 1 v hs.length (hs.map Hdr.val) ∧ (∀ h ∈ hs, Rd w0 h.a h.xs) ∧ Below w0.heap.size w0 w
theorem OwnR.rd {w0 w : World} {v : Value} {hs : List Hdr} (h : OwnR w0 w v hs) (i : Nat) : Rd w0 (hdAt hs i).a (hdAt hs i).xs := by
 by_cases hi : i < hs.length
 · rw [hdAt_lt hi]; exact h.2.2.1 _ (List.getElem_mem hi)
 · rw [hdAt, List.getD_eq_getElem?_getD, List.getElem?_eq_none (by omega)]
   exact Rd.nil _ _
theorem OwnR.form {w0 w : World} {v : Value} {hs : List Hdr} (h : OwnR w0 w v hs) : (v = .slice Option.none 0 0 ∧ hs = []) ∨ ∃ g c, v = .slice (some ⟨g, 0, Option.none⟩) hs.length c ∧ w0.heap.size ≤ g ∧ g < w.heap.size := by
 rcases h.2.1.2 with ⟨rfl, h0⟩ | ⟨g, cap, cur, rfl, hb, hg, _⟩
 · exact .inl ⟨rfl, List.eq_nil_of_length_eq_zero h0⟩
 · exact .inr ⟨g, cap, rfl, hb, (Array.getElem?_eq_some_iff.1 hg).1⟩
theorem OwnR.rds {w0 w : World} {a : Option Addr} {n c : Nat} {hs : List Hdr} (h : OwnR w0 w (.slice a n c) hs) : RdS w a (hs.map Hdr.xs) := by
 refine ⟨by rw [List.length_map]; have := h.1; omega, fun h0 => ?_⟩
 rw [List.length_map] at h0
 rcases h.form with ⟨_, e⟩ | ⟨g, cc, e, _, _⟩
 · rw [e] at h0; simp at h0
 · injection e with e1 e2 e3
   subst e1
   subst e2
   refine ⟨g, 0, rfl, fun i hi => ?_⟩
   rw [List.length_map] at hi
   have hx : nthL (hs.map Hdr.xs) i = (hdAt hs i).xs := by rw [nthL_lt (by rw [List.length_map]; exact hi), List.getElem_map, hdAt_lt hi]
   refine ⟨(hdAt hs i).a, (hdAt hs i).c, ?_, ?_⟩
   · rw [Nat.zero_add, h.2.1.cellAt i (by omega), List.getElem?_map, List.getElem?_eq_getElem hi, hx, hdAt_lt hi]; rfl
   · rw [hx]; exact (h.rd i).below h.2.2.2
theorem swoL (hs : List Hdr) : SWO (ltOf fun i j : Nat => cmpL (hdAt hs i).xs (hdAt hs j).xs) := by
 have key : ∀ x y, ltOf (fun i j : Nat => cmpL (hdAt hs i).xs (hdAt hs j).xs) x y = true ↔ LtL (hdAt hs x).xs (hdAt hs y).xs := fun x y => by rw [ltOf, decide_eq_true_eq]; rfl
 have nkey : ∀ x y, ltOf (fun i j : Nat => cmpL (hdAt hs i).xs (hdAt hs j).xs) x y = false ↔ ¬ LtL (hdAt hs x).xs (hdAt hs y).xs := fun x y => by rw [← key, Bool.not_eq_true]
 refine ⟨fun x => (nkey _ _).2 (LtL.irrefl _), fun x y z h k => (key _ _).2 (((key _ _).1 h).trans ((key _ _).1 k)), fun x y z h k => (nkey _ _).2 fun h3 => ?_⟩
 have h1 := (nkey _ _).1 h
 have h2 := (nkey _ _).1 k
 rcases ltL_tri (hdAt hs x).xs (hdAt hs y).xs with h4 | h4 | h4
 · exact h1 h4
 · rw [h4] at h3; exact h2 h3
 · exact h2 (h4.trans h3)
theorem sortR_own {w0 w : World} {v : Value} {hs : List Hdr} (h : OwnR w0 w v hs) :
    Calls Tryz.prog 118 #[v, .func (.func 119) #[] #[]] w fun e w' => e = .returned (.tuple #[]) ∧ ∃ ks : List Hdr, (ks.map Hdr.xs).Perm (hs.map Hdr.xs) ∧ (ks.map Hdr.xs).Pairwise (fun a b => ¬ LtL b a) ∧ OwnR w0 w' v ks ∧ w.grownBy w' v.ownBlock := by
 rcases h.form with ⟨rfl, rfl⟩ | ⟨g, c, rfl, hB, hg⟩
 · refine (AnyF.slices_SortFunc_none (P := Tryz.prog) (ρ := laySortL_ren) { laySortL with } Option.none 0 _ w).mono ?_
   rintro e w' ⟨rfl, rfl⟩
   exact ⟨rfl, [], List.Perm.refl _, .nil, h, World.grownBy.refl _ _⟩
 · have hl := h.1
   have hds0 : (List.range hs.length).toArray.size = hs.length := by simp
   have hH : Sort.Holds (fun i => (hdAt hs i).val) w g 0 (List.range hs.length).toArray := fun j hj => by
    rw [hds0] at hj
    have e : (List.range hs.length).toArray[j]! = j := by rw [getElem!_pos _ _ (by simpa using hj)]; simp
    refine ⟨?_, by rw [Nat.zero_add]; exact h.2.1.frozenAt j⟩
    rw [Nat.zero_add, h.2.1.cellAt j (by omega), List.getElem?_map, List.getElem?_eq_getElem hj, e]
    show some (Hdr.val hs[j]) = some (Hdr.val (hdAt hs j))
    rw [hdAt_lt hj]
   have hcmp : CmpReads Tryz.prog 119 #[] (fun i => (hdAt hs i).val) (fun i j => cmpL (hdAt hs i).xs (hdAt hs j).xs) g 0 (List.range hs.length).toArray.size w := fun m os dk _ x y => by
    have hgb := grownBy_grow (grownBy_putRow (fun i => (hdAt hs i).val) w g m dk) os
    have hbb := h.2.2.2.grown hgb h.2.2.2.size (fun q hq => by injection hq with hq; omega)
    refine (compareL_any _ _ _ _ _ _ _ ((h.rd x).below hbb) ((h.rd y).below hbb)).mono ?_
    rintro e w' ⟨rfl, rfl⟩
    exact ⟨rfl, 0, rfl⟩
   have eg : ∀ args w, (callFunc 119 args).run Tryz.prog w = .ok (.enter 119 args) w := enters_of Tryz.func119 (by kernel_rfl) rfl
   have key := Any.slices_SortFunc laySortL (fun i => (hdAt hs i).val) (fun _ => rfl) (fun i j => cmpL (hdAt hs i).xs (hdAt hs j).xs) (swoL hs) 119 #[] g 0 c (List.range hs.length).toArray w eg hcmp.lays hH hg (by rw [hds0]; omega)
   rw [hds0] at key
   refine key.mono ?_
   rintro e w' ⟨rfl, d, q, os, hp, hsd, rfl⟩
   have hds : d.size = hs.length := by simpa using hp.1
   have hperm : d.toList.Perm (List.range hs.length) := by
    have := hp.2.2
    rw [Array.extract_eq_self_of_le (by omega), Array.extract_eq_self_of_le (by simp)] at this
    simpa using this
   have hgb := grownBy_grow (grownBy_putRow (fun i => (hdAt hs i).val) w g q d) os
   have hbb := h.2.2.2.grown hgb h.2.2.2.size (fun q hq => by injection hq with hq; omega)
   have hmap : (List.range hs.length).map (hdAt hs) = hs := by
    refine List.ext_getElem (by simp) fun i h1 h2 => ?_
    rw [List.getElem_map, List.getElem_range, hdAt_lt h2]
   have hpk : (d.toList.map (hdAt hs)).Perm hs := by
    have := hperm.map (hdAt hs)
    rw [hmap] at this
    exact this
   refine ⟨rfl, d.toList.map (hdAt hs), hpk.map _, ?_, ⟨by simpa [hds] using hl, ?_, fun k hk => h.2.2.1 k (hpk.mem_iff.1 hk), hbb⟩, hgb⟩
   · rw [List.map_map, List.pairwise_map, List.pairwise_iff_getElem]
     intro i j hi hj hij hlt
     have := hsd i j (Nat.zero_le _) hij (by simpa [hds] using hj)
     rw [ltOf, decide_eq_false_iff_not] at this
     refine this ?_
     simp only [Array.length_toList] at hi hj
     rw [getElem!_pos d j (by omega), getElem!_pos d i (by omega)]
     have h3 : LtL (hdAt hs d[j]).xs (hdAt hs d[i]).xs := by simpa using hlt
     exact h3
   · have hsl : d.toList.length = hs.length := by simpa using hds
     have e : hs.map Hdr.val = (List.range hs.length).map fun i => (hdAt hs i).val := by
      have := congrArg (List.map Hdr.val) hmap
      rw [List.map_map] at this
      exact this.symm
     have ho := ownsRow_putRow (q := q) (k := hs.length) (enc := fun i => (hdAt hs i).val) (zs := List.range hs.length) (ys := d.toList) (by rw [← e]; exact h.2.1) hsl (Nat.le_refl _)
     rw [List.take_of_length_le (by omega), Array.toArray_toList] at ho
     rw [List.length_map, hsl, List.map_map]
     exact ownsRow_below ho (below_grow _ os) (Nat.le_refl _)
end Go.Proofs.YtgfcbmflnldicaaGreat
namespace Go.Proofs.YtgfcbmflnldicaaGreat
open Go.RowKit Go.Lib
theorem hdrs_of {w : World} {B : Nat} : ∀ {vs : List Value} {xss : List (List Int)}, vs.length = xss.length → (∀ (i : Nat) (x : Value), vs[i]? = some x → Own w B x (nthL xss i)) → ∃ hs : List Hdr, hs.map Hdr.val = vs ∧ hs.map Hdr.xs = xss ∧ ∀ h ∈ hs, Rd w h.a h.xs
 | [], [], _, _ => ⟨[], rfl, rfl, by simp⟩
 | [], _ :: _, h, _ => by simp at h
 | _ :: _, [], h, _ => by simp at h
 | v :: vs, xs :: xss, hl, hi => by
  obtain ⟨hs, h1, h2, h3⟩ := hdrs_of (vs := vs) (xss := xss) (by simpa using hl) fun i x hx => by
   have := hi (i + 1) x (by simpa using hx)
   simpa [nthL] using this
  have h0 := hi 0 v rfl
  obtain ⟨a, c, rfl, r, _⟩ := h0.form
  have e : nthL (xs :: xss) 0 = xs := rfl
  rw [e] at r ⊢
  exact ⟨⟨a, c, xs⟩ :: hs, by rw [List.map_cons, h1]; rfl, by rw [List.map_cons, h2], fun h hh => by
   rcases List.mem_cons.1 hh with rfl | hh
   · exact r
   · exact h3 h hh⟩
theorem cloneR_any {w : World} {B : Nat} {v : Value} {K : List (List Int)} (h : OwnS w B v K) (hn : K.length ≤ 1000000) (h0 : v ≠ .slice none 0 0) :
    Calls Tryz.prog 117 #[v] w fun e w' => ∃ v' hs, e = .returned v' ∧ hs.map Hdr.xs = K ∧ OwnR w w' v' hs ∧ v' ≠ .slice none 0 0 ∧ Below w.heap.size w w' := by
 obtain ⟨i0, hi0, hz0, hz1, hz2⟩ := info_parts Tryz.info_row
 obtain ⟨hl, vs, hr, hin⟩ := h
 obtain ⟨hs, e1, e2, e3⟩ := hdrs_of hin.1 hin.2.1
 have hvl : vs.length = K.length := hin.1
 have hhl : hs.length = K.length := by rw [← e2, List.length_map]
 rcases hr.2 with ⟨rfl, h1⟩ | ⟨g, cap, cur, rfl, hb, hg, hnc, hcm, hcs, ht⟩
 · exact absurd rfl h0
 · have hr2 := hr
   refine (AnyE.slices_Clone layCloneL i0 (.slice none 0 0) 1 24 hi0 hz0 hz1 hz2 rfl (by omega) (fun w => Tryz.sizeOf24 w) g 0 K.length cap vs w (by rw [hvl]; omega) (by unfold maxLen; omega) (by omega) (fun j u hu => ?_) (fun u hu => ?_)).mono ?_
   · have hj : j < K.length := by
       have := (List.getElem?_eq_some_iff.1 hu).1
       omega
     rw [Nat.zero_add, hr2.cellAt j (by omega)]
     exact hu
   · rw [← e1] at hu
     obtain ⟨k, _, rfl⟩ := List.mem_map.1 hu
     rfl
   · rintro e w' ⟨v', rfl, ho, hne, hbb⟩
     refine ⟨v', hs, rfl, e2, ⟨by omega, ?_, e3, hbb⟩, hne, hbb⟩
     rw [e1, hhl]
     exact ho
end Go.Proofs.YtgfcbmflnldicaaGreat
